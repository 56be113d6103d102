/- Nothing but one block was turned. -/
import Derived.Test.YtnahbblglalagaaInts
namespace Go.Proofs.Ytnahbblglalagaa
open Go.ChangeShapes Go.WideShapes Go.ChangeAt Go.RowKit
set_option linter.unusedVariables false

/-- nothing but the block g was turned -/
structure On (g : Nat) (w w' : World) : Prop where
  os : w'.os = w.os
  tape : w'.tape = w.tape
  output : w'.output = w.output
  size : w.heap.size ≤ w'.heap.size
  block : ∀ k, k ≠ g → k < w.heap.size → w'.heap[k]? = w.heap[k]?
theorem On.refl (g : Nat) (w : World) : On g w w := ⟨rfl, rfl, rfl, Nat.le_refl _, fun _ _ _ => rfl⟩
theorem On.trans {g : Nat} {a b c : World} (h : On g a b) (k : On g b c) : On g a c :=
  ⟨k.os.trans h.os, k.tape.trans h.tape, k.output.trans h.output, Nat.le_trans h.size k.size, fun i hi hl => (k.block i hi (Nat.lt_of_lt_of_le hl h.size)).trans (h.block i hi hl)⟩
theorem On.of_mor {g : Nat} {w w' : World} (h : Mor w w') : On g w w' := by
  have hb := h.below
  exact ⟨hb.os, hb.tape, hb.output, hb.size, fun k _ hk => hb.block k hk⟩
theorem On.mor {g : Nat} {w w1 w2 : World} (h : On g w w1) (hm : Mor w1 w2) : On g w w2 := h.trans (On.of_mor hm)
theorem On.setCell {g i : Nat} {w w' : World} (h : On g w w') (u : Value) : On g w (w'.setCell ⟨g, i, none⟩ u) :=
  ⟨h.os, h.tape, h.output, by rw [show (w'.setCell ⟨g, i, none⟩ u).heap.size = w'.heap.size by simp [World.setCell]]; exact h.size, fun k hk hl => (Below.heap_setCell _ _ _ _ hk).trans (h.block k hk hl)⟩
theorem On.drew {g : Nat} {w w' : World} (h : On g w w') : On g w w'.drew := ⟨h.os, h.tape, h.output, h.size, h.block⟩
theorem On.drewN {g n : Nat} {w w' : World} (h : On g w w') : On g w (w'.drewN n) := ⟨h.os, h.tape, h.output, h.size, h.block⟩
theorem On.below {g : Nat} {w w' : World} (h : On g w w') (hg : w.heap.size ≤ g) : Below w.heap.size w w' :=
  ⟨h.os, h.tape, h.output, h.size, fun k hk => h.block k (by omega) hk⟩
theorem On.blk {g : Nat} {w w' : World} {b : Nat} {t : TypeId} {cs : Array Value} (h : On g w w') (hb : Blk w b t cs) (hne : b ≠ g) : Blk w' b t cs := (h.block b hne hb.lt).trans hb

end Go.Proofs.Ytnahbblglalagaa
