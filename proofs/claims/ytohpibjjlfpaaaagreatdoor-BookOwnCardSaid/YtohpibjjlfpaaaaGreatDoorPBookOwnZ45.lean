/- Worlds in which some blocks are spoilt and all else is as it was. -/
import Derived.Test.YtohpibjjlfpaaaaGreatDoorPBookOwnZ1
import Derived.Test.YtohpibjjlfpaaaaGreatDoorPBookOwnZ2
import Derived.Test.YtohpibjjlfpaaaaGreatDoorPBookOwnZ3
import Derived.Test.YtohpibjjlfpaaaaGreatDoorPBookOwnZ4
import Derived.Test.YtohpibjjlfpaaaaGreatDoorPBookOwnZ5
import Derived.Test.YtohpibjjlfpaaaaGreatDoorPBookOwnZ6
import Derived.Test.YtohpibjjlfpaaaaGreatDoorPBookOwnZ9
import Derived.Test.YtohpibjjlfpaaaaGreatDoorPBookOwnZ10
import Derived.Test.YtohpibjjlfpaaaaGreatDoorPBookOwnZ11
import Derived.Test.YtohpibjjlfpaaaaGreatDoorPBookOwnZ12
import Derived.Test.YtohpibjjlfpaaaaGreatDoorPBookOwnZ13
import Derived.Test.YtohpibjjlfpaaaaGreatDoorPBookOwnZ15
import Derived.Test.YtohpibjjlfpaaaaGreatDoorPBookOwnZ35
import Derived.Test.YtohpibjjlfpaaaaGreatDoorPBookOwnZ40
import Derived.Test.YtohpibjjlfpaaaaGreatDoorPBookOwnZ41
import Derived.Test.YtohpibjjlfpaaaaGreatDoorPBookOwnZ42
import Derived.Test.YtohpibjjlfpaaaaGreatDoorRows
import Derived.BigQuiet
import Derived.DataElems
import Derived.Deep.AppendSrc
import Derived.Deep.DeepAppendRoom
import Derived.Deep.LoopGhost
import Derived.Deep.OwnRows
import Derived.Deep.QuietTactic
import Derived.Deep.RegionLaw
import Derived.Deep.SlicePairs
import Derived.Deep.Slices
import Derived.Deep.Strs
import Derived.Handy
import Derived.Laws.AppendOwn
import Derived.Laws.Cover1
import Derived.Lib.Bytealg
import Derived.Lib.Hide
import Derived.Lib.SliceRun
import Derived.Lib.Walk
import Derived.OpenShut
import Derived.Outline
import Derived.OwnWalk
import Derived.PlainAid
import Derived.ProofKit
import Derived.RegionTactic
import Derived.Shelf.Abstract
import Derived.Sort.Walk0
import Derived.WalkKit
import Derived.WalkSpells
namespace Go.Proofs.YtohpibjjlfpaaaaGreatDoor
open Go.ChangeShapes Go.WideShapes Go.ChangeAt Go.RowKit
set_option linter.unusedVariables false
set_option maxRecDepth 100000

/-- but for the blocks of P nothing of the older world is changed -/
structure But (P : Nat → Prop) (w w' : World) : Prop where
  os : w'.os = w.os
  tape : w'.tape = w.tape
  output : w'.output = w.output
  size : w.heap.size ≤ w'.heap.size
  block : ∀ b, b < w.heap.size → ¬ P b → w'.heap[b]? = w.heap[b]?
theorem But.refl (P : Nat → Prop) (w : World) : But P w w := ⟨rfl, rfl, rfl, Nat.le_refl _, fun _ _ _ => rfl⟩
theorem But.mono {P Q : Nat → Prop} {w w' : World} (h : But P w w') (hp : ∀ b, P b → Q b) : But Q w w' :=
  ⟨h.os, h.tape, h.output, h.size, fun b hb hq => h.block b hb (fun hP => hq (hp b hP))⟩
theorem But.grown {P : Nat → Prop} {w w' w'' : World} {o : Option Nat} (h : But P w w') (hg : w'.grownBy w'' o) (hp : ∀ b, o = some b → b < w.heap.size → P b) : But P w w'' := by
  obtain ⟨h1, h2, h3, h4, h5⟩ := hg
  refine ⟨h1.trans h.os, h2.trans h.tape, h3.trans h.output, Nat.le_trans h.size h4, fun b hb hq => ?_⟩
  refine (h5 b (Nat.lt_of_lt_of_le hb h.size) (fun e => hq (hp b ?_ hb))).trans (h.block b hb hq)
  first | exact e | exact e.symm
theorem But.mor {P : Nat → Prop} {w w' w'' : World} (h : But P w w') (hm : Mor w' w'') : But P w w'' := h.grown (grown_mor hm none) (by simp)
theorem But.of_mor {P : Nat → Prop} {w w' : World} (hm : Mor w w') : But P w w' := (But.refl P w).mor hm
theorem But.trans' {P : Nat → Prop} {w w' w'' : World} (h : But P w w') (h2 : But P w' w'') : But P w w'' :=
  ⟨h2.os.trans h.os, h2.tape.trans h.tape, h2.output.trans h.output, Nat.le_trans h.size h2.size, fun b hb hq => (h2.block b (Nat.lt_of_lt_of_le hb h.size) hq).trans (h.block b hb hq)⟩
theorem own_but {P : Nat → Prop} {w w' : World} {B s n : Nat} {T : TypeId} {v : Value} {xs : List Value} (h : w.ownsRow B T s v n xs) (hb : But P w w') (hp : ∀ b, v.ownBlock = some b → ¬ P b) : w'.ownsRow B T s v n xs := by
  have hlt := World.ownsRow.lt h
  refine ⟨h.1, ?_⟩
  rcases h.2 with hn | ⟨g, cap, cur2, rfl, hg2, hh, rest⟩
  · exact .inl hn
  · refine .inr ⟨g, cap, cur2, rfl, hg2, (hb.block g (hlt g rfl).2 (hp g rfl)).trans hh, rest⟩
theorem blk_but {P : Nat → Prop} {w w' : World} {g : Nat} {t : TypeId} {cs : Array Value} (h : Blk w g t cs) (hb : But P w w') (hp : ¬ P g) : Blk w' g t cs :=
  (hb.block g h.lt hp).trans h
theorem But.toMor {P : Nat → Prop} {w w1 w2 : World} (h : Mor w w1) (hb : But P w1 w2) (hP : ∀ b, P b → w.heap.size ≤ b) : Mor w w2 := by
  have hB := h.below
  exact Mor.of_below ⟨hb.os.trans hB.os, hb.tape.trans hB.tape, hb.output.trans hB.output, Nat.le_trans hB.size hb.size, fun k hk => (hb.block k (Nat.lt_of_lt_of_le hk hB.size) (fun hp => by have := hP k hp; omega)).trans (hB.block k hk)⟩

end Go.Proofs.YtohpibjjlfpaaaaGreatDoor
