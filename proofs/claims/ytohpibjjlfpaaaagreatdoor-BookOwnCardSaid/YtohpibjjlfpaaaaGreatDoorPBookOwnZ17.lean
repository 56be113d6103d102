/- Plain laws: a log is texts of entries and what is left of one. -/
import Derived.Test.YtohpibjjlfpaaaaGreatDoorPBookOwnZ1
import Derived.Test.YtohpibjjlfpaaaaGreatDoorPBookOwnZ2
import Derived.Test.YtohpibjjlfpaaaaGreatDoorPBookOwnZ3
import Derived.Test.YtohpibjjlfpaaaaGreatDoorPBookOwnZ4
import Derived.Test.YtohpibjjlfpaaaaGreatDoorPBookOwnZ5
import Derived.Test.YtohpibjjlfpaaaaGreatDoorPBookOwnZ6
import Derived.Test.YtohpibjjlfpaaaaGreatDoorPBookOwnZ7
import Derived.Test.YtohpibjjlfpaaaaGreatDoorPBookOwnZ9
import Derived.Test.YtohpibjjlfpaaaaGreatDoorPBookOwnZ10
import Derived.Test.YtohpibjjlfpaaaaGreatDoorPBookOwnZ11
import Derived.Test.YtohpibjjlfpaaaaGreatDoorPBookOwnZ12
import Derived.Test.YtohpibjjlfpaaaaGreatDoorPBookOwnZ13
import Derived.Test.YtohpibjjlfpaaaaGreatDoorPBookOwnZ15
import Derived.Test.YtohpibjjlfpaaaaGreatDoorRows
import Derived.BigQuiet
import Derived.DataElems
import Derived.Deep.LoopGhost
import Derived.Deep.QuietTactic
import Derived.Deep.RegionLaw
import Derived.Deep.SlicePairs
import Derived.Deep.Slices
import Derived.Deep.Strs
import Derived.Handy
import Derived.Laws.AppendOwn
import Derived.Laws.Cover1
import Derived.Lib.AtoiAll
import Derived.Lib.AtoiTie
import Derived.Lib.Bytealg
import Derived.Lib.CutLaws
import Derived.Lib.Hide
import Derived.Lib.ItoaLen
import Derived.Lib.ItoaNum
import Derived.Lib.LastIndexLaws
import Derived.Lib.SliceRun
import Derived.Lib.SplitLaws
import Derived.Lib.Walk
import Derived.OpenShut
import Derived.Outline
import Derived.OwnWalk
import Derived.PlainAid
import Derived.ProofKit
import Derived.RegionTactic
import Derived.Shelf.Abstract
import Derived.Sort.Walk0
import Derived.WalkKit
import Derived.WalkSpells
namespace Go.Proofs.YtohpibjjlfpaaaaGreatDoor
open Go Go.Lib
set_option linter.unusedVariables false
set_option maxRecDepth 100000

def texts (d : List En) : List UInt8 := d.flatMap textT
theorem texts_cons (x : En) (d : List En) : texts (x :: d) = textT x ++ texts d := rfl
theorem texts_drop (d : List En) (i : Nat) (h : i < d.length) : texts (d.drop i) = textT (ne d i) ++ texts (d.drop (i + 1)) := by
  rw [List.drop_eq_getElem_cons h, texts_cons, ne_eq _ _ h]
/-- one entry more is read -/
theorem rp_step {d : List En} {i : Nat} (hi : i < d.length) (he : enc (ne d i) = 0) {s : ByteArray} {r : List UInt8} (hs : ub s = texts (d.drop i) ++ r) :
    rdc s = 0 ∧ rdE s = ne d i ∧ rdAt s + 1 = (textT (ne d i)).length ∧ ub (s.extract (textT (ne d i)).length s.size) = texts (d.drop (i + 1)) ++ r ∧ (textT (ne d i)).length ≤ s.size ∧ 0 < s.size := by
  rw [texts_drop d i hi, List.append_assoc] at hs
  obtain ⟨a, b, c⟩ := read_text he hs
  have hz : s.size = (textT (ne d i)).length + (texts (d.drop (i + 1)) ++ r).length := by rw [← ub_len, hs, List.length_append]
  have h1 : 1 ≤ (textT (ne d i)).length := by unfold textT; simp
  refine ⟨a, b, c, ?_, by omega, by omega⟩
  rw [ub_ext, hs, List.drop_left, hz]
  exact List.take_of_length_le (by omega)
end Go.Proofs.YtohpibjjlfpaaaaGreatDoor
