/- talkeep.roomy, talkeep.marked, talkeep.spoil at int. -/
import Derived.Test.YtohpibjjlfpaaaaGreatDoorPBookOwnZ1
import Derived.Test.YtohpibjjlfpaaaaGreatDoorPBookOwnZ11
import Derived.Test.YtohpibjjlfpaaaaGreatDoorPBookOwnZ35
import Derived.Test.YtohpibjjlfpaaaaGreatDoorPBookOwnZ40
import Derived.Test.YtohpibjjlfpaaaaGreatDoorPBookOwnZ41
import Derived.Test.YtohpibjjlfpaaaaGreatDoorRows
import Derived.BigQuiet
import Derived.Deep.AppendSrc
import Derived.Deep.DeepAppendRoom
import Derived.Deep.OwnRows
import Derived.Deep.QuietTactic
import Derived.Deep.RegionLaw
import Derived.Handy
import Derived.Lib.Hide
import Derived.OpenShut
import Derived.Outline
import Derived.OwnWalk
import Derived.ProofKit
import Derived.RegionTactic
import Derived.WalkKit
import Derived.WalkSpells
namespace Go.Proofs.YtohpibjjlfpaaaaGreatDoor
open Go.ChangeShapes Go.WideShapes Go.ChangeAt Go.RowKit
set_option linter.unusedVariables false
set_option maxRecDepth 100000

/-- a world that another became: but for the block g nothing is changed -/
def Chg (g : Nat) (w w' : World) : Prop := w.grownBy w' (some g) ∧ w'.heap.size = w.heap.size
theorem Chg.refl (g : Nat) (w : World) : Chg g w w := ⟨⟨rfl, rfl, rfl, Nat.le_refl _, fun _ _ _ => rfl⟩, rfl⟩
theorem Chg.set_ {g i : Nat} {u : Value} {w w' : World} (h : Chg g w w') : Chg g w (w'.setCell ⟨g, i, none⟩ u) := by
  obtain ⟨⟨h1, h2, h3, h4, h5⟩, h6⟩ := h
  refine ⟨⟨h1, h2, h3, by simpa [World.setCell] using h4, fun k hk hne => ?_⟩, by simpa [World.setCell] using h6⟩
  rw [Below.heap_setCell _ _ _ _ (fun e => hne (by rw [e]))]
  exact h5 k hk hne
theorem Chg.mor {g : Nat} {w w1 w2 : World} (h : Mor w w1) (hc : Chg g w1 w2) (hg : w.heap.size ≤ g) : Mor w w2 := by
  have hb := h.below
  obtain ⟨⟨h1, h2, h3, h4, h5⟩, h6⟩ := hc
  exact Mor.of_below ⟨h1.trans hb.os, h2.trans hb.tape, h3.trans hb.output, by have := hb.size; omega, fun k hk => (h5 k (by have := hb.size; omega) (by intro e; injection e with e; omega)).trans (hb.block k hk)⟩
theorem Chg.blk {g b : Nat} {w w' : World} {t : TypeId} {cs : Array Value} (hc : Chg g w w') (h : Blk w b t cs) (hne : b ≠ g) : Blk w' b t cs :=
  (hc.1.block b h.lt (by intro e; injection e with e; exact hne e)).trans h
theorem wpList_append_nilc {P : Program} {w : World} {ops : Array Oper} {rest : List Oper} {o : Oper} {a : Act} {Q : Exit → Act → World → Prop} (hgd : o.guard = none) (s x : Operand) (t : TypeId)
    (ho : o.op = .call { callee := .builtin .append, args := #[s, x], argTypes := #[t, t] }) (e : TypeId) (i : TypeInfo) (ht : P.underlying t = some (.slice e)) (hi : P.info? e = some i) (g n cap c : Nat)
    (hs : a.eval s = .slice (some ⟨g, 0, none⟩) n cap) (hx : a.eval x = .slice none 0 c) (hroom : n ≤ cap) (h : wpList P ops Q rest (a.put o.dst (.slice (some ⟨g, 0, none⟩) n cap)) w) : wpList P ops Q (o :: rest) a w := by
  refine wpList_plain hgd fun K hK => ?_
  have hrun := run_append_room_src (P := P) w t t o.type e i ht hi g 0 n cap (.slice none 0 c) 0 [] (Src.ofNil w ht c) (by omega) (fun j hj => absurd hj (Nat.not_lt_zero _)) (fun j hj => absurd hj (Nat.not_lt_zero _))
  unfold Oper.wp
  simp [execOp, ho, resolve, invoke, builtin, hs, hx, hrun, Result.andThen, World.setCells]
  exact hK _ _ h

end Go.Proofs.YtohpibjjlfpaaaaGreatDoor

/- talkeep.spoil at api.Row. -/
namespace Go.Proofs.YtohpibjjlfpaaaaGreatDoor
open Go.ChangeShapes Go.WideShapes Go.ChangeAt Go.RowKit
set_option linter.unusedVariables false
set_option maxRecDepth 100000

theorem grown_set {g i : Nat} {u : Value} {w w' : World} (h : w.grownBy w' (some g)) : w.grownBy (w'.setCell ⟨g, i, none⟩ u) (some g) := by
  obtain ⟨h1, h2, h3, h4, h5⟩ := h
  refine ⟨h1, h2, h3, by simpa [World.setCell] using h4, fun k hk hne => ?_⟩
  rw [Below.heap_setCell _ _ _ _ (fun e => hne (by rw [e]))]
  exact h5 k hk hne
theorem grown_morR {g : Nat} {w w1 w2 : World} (h : Mor w w1) (hc : w1.grownBy w2 (some g)) (hg : w.heap.size ≤ g) : Mor w w2 := by
  have hb := h.below
  obtain ⟨h1, h2, h3, h4, h5⟩ := hc
  exact Mor.of_below ⟨h1.trans hb.os, h2.trans hb.tape, h3.trans hb.output, by have := hb.size; omega, fun k hk => (h5 k (by have := hb.size; omega) (by intro e; injection e with e; omega)).trans (hb.block k hk)⟩
theorem set_size (cs : Array Value) (i : Nat) (u : Value) {m : Nat} (h : cs.size = m) : (cs.setIfInBounds i u).size = m := by rw [Array.size_setIfInBounds]; exact h
theorem blk_off {w : World} {g b i : Nat} {t : TypeId} {cs : Array Value} {u : Value} (h : Blk w b t cs) (hne : g ≠ b) : Blk (w.setCell ⟨g, i, none⟩ u) b t cs := (Below.heap_setCell _ _ _ _ (fun e => hne e.symm)).trans h
theorem blk_some {w : World} {g : Nat} {t : TypeId} {cs : Array Value} (h : Blk w g t cs) (i : Nat) (hi : i < cs.size) : ∃ y, w.cell? ⟨g, i, none⟩ = some y :=
  ⟨cs[i], by rw [h.cell]; exact Array.getElem?_eq_getElem hi⟩

end Go.Proofs.YtohpibjjlfpaaaaGreatDoor
