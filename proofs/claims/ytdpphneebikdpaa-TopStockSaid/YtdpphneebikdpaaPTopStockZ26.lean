/- The walk of trial.kinds: what the accounts of each kind come to. -/
import Derived.Test.YtdpphneebikdpaaPTopStockZ1
import Derived.Test.YtdpphneebikdpaaPTopStockZ2
import Derived.Test.YtdpphneebikdpaaPTopStockZ3
import Derived.Test.YtdpphneebikdpaaPTopStockZ4
import Derived.Test.YtdpphneebikdpaaPTopStockZ5
import Derived.Test.YtdpphneebikdpaaPTopStockZ6
import Derived.Test.YtdpphneebikdpaaPTopStockZ7
import Derived.Test.YtdpphneebikdpaaPTopStockZ8
import Derived.Test.YtdpphneebikdpaaPTopStockZ9
import Derived.Test.YtdpphneebikdpaaPTopStockZ10
import Derived.Test.YtdpphneebikdpaaPTopStockZ11
import Derived.Test.YtdpphneebikdpaaPTopStockZ12
import Derived.Test.YtdpphneebikdpaaPTopStockZ13
import Derived.Test.YtdpphneebikdpaaPTopStockZ14
import Derived.Test.YtdpphneebikdpaaPTopStockZ15
import Derived.Test.YtdpphneebikdpaaPTopStockZ16
import Derived.Test.YtdpphneebikdpaaPTopStockZ17
import Derived.Test.YtdpphneebikdpaaPTopStockZ18
import Derived.Test.YtdpphneebikdpaaPTopStockZ19
import Derived.Test.YtdpphneebikdpaaRows
import Derived.BigQuiet
import Derived.BigRegion
import Derived.Carry
import Derived.DataElems
import Derived.Deep.DeepCutAuto
import Derived.Deep.LoopGhost
import Derived.Deep.QuietTactic
import Derived.Deep.RegionHeld3
import Derived.Deep.RegionLaw
import Derived.Deep.RegionWith
import Derived.Deep.SlicePairs
import Derived.Deep.Slices
import Derived.Deep.Strs
import Derived.Handy
import Derived.IntWalk
import Derived.Laws.AppendOwn
import Derived.Laws.CopyOwn
import Derived.Laws.CopyRow
import Derived.Laws.Cover1
import Derived.Laws.Externs
import Derived.Laws.NewBlocks
import Derived.Lib.AppendZerosOnto
import Derived.Lib.Bytealg
import Derived.Lib.Hide
import Derived.Lib.Overlaps
import Derived.Lib.SliceRun
import Derived.Lib.Walk
import Derived.Maps.Own
import Derived.Maps.OwnSet
import Derived.Maps.Views
import Derived.OpenShut
import Derived.Outline
import Derived.OwnWalk
import Derived.PlainAid
import Derived.ProofKit
import Derived.RegionTactic
import Derived.Shelf.Abstract
import Derived.Shelf.RegionOpenPlain
import Derived.Sort.Walk0
import Derived.StringKeys
import Derived.WalkKit
import Derived.WalkSpells
namespace Go.Proofs.Ytdpphneebikdpaa
open Go.ChangeShapes Go.WideShapes Go.ChangeAt Go.RowKit Go.PlainAid
set_option linter.unusedVariables false
set_option maxRecDepth 100000

theorem Mor.setC {w w' : World} {g i : Nat} {u : Value} (h : Mor w w') (hg : w.heap.size ≤ g) : Mor w (w'.setCell ⟨g, i, none⟩ u) := Mor.of_below (h.below.setCell hg u)
end Go.Proofs.Ytdpphneebikdpaa

/- Where a book that Post hands back lies when its variable was made ahead of it, or behind it. -/
namespace Go.Proofs.Ytdpphneebikdpaa
open Go.ChangeShapes Go.WideShapes Go.ChangeAt Go.RowKit Go.PlainAid
set_option linter.unusedVariables false
set_option maxRecDepth 100000

theorem own3 {W : World} {base g n m : Nat} {vA vX a a' a'' z z' z'' : Value} {b : Bok} (h : OwnB W base vA vX n m b) (hb : Bk W g 41 #[z, z', z'']) :
    OwnB (((W.setCell ⟨g, 0, none⟩ a).setCell ⟨g, 1, none⟩ a').setCell ⟨g, 2, none⟩ a'') base vA vX n m b :=
  ((h.setT hb).setT (hb.set_ 0 a)).setT ((hb.set_ 0 a).set_ 1 a')
end Go.Proofs.Ytdpphneebikdpaa

/- A book that entries are posted to, one after another; the walk of talkeep.made. -/
namespace Go.Proofs.Ytdpphneebikdpaa
open Go.ChangeShapes Go.WideShapes Go.ChangeAt Go.RowKit Go.PlainAid
set_option linter.unusedVariables false
set_option maxRecDepth 100000

/-- the book is the one that came in, or one's own -/
def Hld (w : World) (A0 : Option Addr) (n c0 : Nat) (X0 : Option Addr) (m0 k0 : Nat) (b0 : Bok) (A : Option Addr) (c : Nat) (X : Option Addr) (m k : Nat) (b : Bok) : Prop :=
  (A = A0 ∧ c = c0 ∧ X = X0 ∧ m = m0 ∧ k = k0 ∧ b = b0) ∨ ∃ B, OwnB w B (.slice A n c) (.slice X m k) n m b
section
variable {w w' : World} {A0 : Option Addr} {n c0 : Nat} {X0 : Option Addr} {m0 k0 : Nat} {b0 : Bok} {A : Option Addr} {c : Nat} {X : Option Addr} {m k : Nat} {b : Bok}
theorem Hld.start : Hld w A0 n c0 X0 m0 k0 b0 A0 c0 X0 m0 k0 b0 := .inl ⟨rfl, rfl, rfl, rfl, rfl, rfl⟩
theorem Hld.mor (h : Hld w A0 n c0 X0 m0 k0 b0 A c X m k b) (hm : Mor w w') : Hld w' A0 n c0 X0 m0 k0 b0 A c X m k b := by
  rcases h with h | ⟨B, h⟩
  · exact .inl h
  · exact .inr ⟨B, h.mor hm⟩
theorem own_bq {B : Nat} (h : OwnB w B (.slice A n c) (.slice X m k) n m b) : Bq w A n c X m k b := by
  obtain ⟨A', c', X', k', e1, e2, hb⟩ := h.bq
  injection e1 with e1 _ e3
  injection e2 with e4 _ e6
  subst e1 e3 e4 e6
  exact hb
theorem Hld.bq (h : Hld w' A0 n c0 X0 m0 k0 b0 A c X m k b) (hb : Bq w A0 n c0 X0 m0 k0 b0) (hm : Mor w w') : Bq w' A n c X m k b := by
  rcases h with ⟨rfl, rfl, rfl, rfl, rfl, rfl⟩ | ⟨B, h⟩
  · exact hb.mor hm
  · exact own_bq h
theorem Hld.store {g : Nat} {z z' z'' a a' a'' : Value} (h : Hld w A0 n c0 X0 m0 k0 b0 A c X m k b) (hg : Bk w g 41 #[z, z', z'']) :
    Hld (((w.setCell ⟨g, 0, none⟩ a).setCell ⟨g, 1, none⟩ a').setCell ⟨g, 2, none⟩ a'') A0 n c0 X0 m0 k0 b0 A c X m k b := by
  rcases h with h | ⟨B, h⟩
  · exact .inl h
  · exact .inr ⟨B, own3 h hg⟩
theorem Hld.own {B : Nat} (h : OwnB w B (.slice A n c) (.slice X m k) n m b) : Hld w A0 n c0 X0 m0 k0 b0 A c X m k b := .inr ⟨B, h⟩
end
theorem postYes_own {w w' : World} {b : Bok} {e : Ending} {n : Nat} (h : PostYes w b e w') (hn : b.ac.length = n) : ∃ A c X m k, e = .returned (.tuple #[bv A n c X m k b.shut, .int .i64 0]) ∧ OwnB w' w.heap.size (.slice A n c) (.slice X m k) n m b ∧ Mor w w' := by
  obtain ⟨A, n', c, X, m, k, he, hq, ho, hm⟩ := postYes_bq h
  have e : n' = n := by rw [← hq.ac.length, hn]
  subst e
  exact ⟨A, c, X, m, k, he, ho, hm⟩

end Go.Proofs.Ytdpphneebikdpaa
