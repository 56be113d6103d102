/- Rows of one's own beside stores and appends. -/
import Derived.Test.YtahegjhjonodlaaDoorPNumbersOwnZ1
import Derived.Test.YtahegjhjonodlaaDoorPNumbersOwnZ3
import Derived.Test.YtahegjhjonodlaaDoorPNumbersOwnZ11
import Derived.Test.YtahegjhjonodlaaDoorPNumbersOwnZ12
import Derived.Test.YtahegjhjonodlaaDoorPNumbersOwnZ13
import Derived.Test.YtahegjhjonodlaaDoorPNumbersOwnZ14
import Derived.Test.YtahegjhjonodlaaDoorPNumbersOwnZ15
import Derived.Test.YtahegjhjonodlaaDoorPNumbersOwnZ16
import Derived.Test.YtahegjhjonodlaaDoorPNumbersOwnZ17
import Derived.Test.YtahegjhjonodlaaDoorPNumbersOwnZ18
import Derived.Test.YtahegjhjonodlaaDoorRows
import Derived.BigQuiet
import Derived.DataElems
import Derived.Deep.LoopGhost
import Derived.Deep.QuietTactic
import Derived.Deep.RegionLaw
import Derived.Deep.SlicePairs
import Derived.Deep.Slices
import Derived.Deep.Strs
import Derived.Handy
import Derived.Laws.AppendOwn
import Derived.Laws.Cover1
import Derived.Lib.Bytealg
import Derived.Lib.Hide
import Derived.Lib.SliceRun
import Derived.Lib.Walk
import Derived.OpenShut
import Derived.Outline
import Derived.OwnWalk
import Derived.PlainAid
import Derived.ProofKit
import Derived.RegionTactic
import Derived.Shelf.Abstract
import Derived.Sort.Walk0
import Derived.WalkKit
import Derived.WalkSpells
namespace Go.Proofs.YtahegjhjonodlaaDoor
open Go.ChangeShapes Go.WideShapes Go.ChangeAt Go.RowKit Go.PlainAid
set_option linter.unusedVariables false
set_option maxRecDepth 100000

theorem Bk.grows {w w' : World} {B g s n : Nat} {t T : TypeId} {cs : Array Value} {v : Value} {xs : List Value} (h : Bk w g t cs) (hv : w.ownsRow B T s v n xs) (hg : w.grownBy w' v.ownBlock) (hB : g < B) : Bk w' g t cs :=
  (hg.block g h.lt (fun e => by have := (own_blk hv e.symm).2.1; omega)).trans h
theorem own_grows {w w' : World} {B B' s s' n n' : Nat} {T T' : TypeId} {v v' : Value} {xs xs' : List Value} (h : w.ownsRow B T s v n xs) (hv : w.ownsRow B' T' s' v' n' xs') (hg : w.grownBy w' v'.ownBlock) (hT : T ≠ T') : w'.ownsRow B T s v n xs := by
  cases hb : v'.ownBlock with
  | none => rw [hb] at hg; exact own_kept h hg
  | some b =>
    rw [hb] at hg
    obtain ⟨_, _, cur, hc⟩ := own_blk hv hb
    exact own_other h hc hT hg
theorem lit_at {w : World} {b : Nat} (l : List Value) (C : Array Value) (t : TypeId) (hC : C = l.toArray) (hb : b = w.heap.size) : ∀ (j : Nat) (u : Value), l[j]? = some u → (w.alloc (.cells C t)).cell? ((⟨b, 0, none⟩ : Addr).add j) = some u := by
  intro j u hu
  subst hC hb
  rw [adds, Nat.zero_add, (Bk.new w t l.toArray).cell, List.getElem?_toArray]
  exact hu
theorem own_step {w wr w1 : World} {T : TypeId} {s : Nat} {v : Value} {n : Nat} {xs : List Value} (hown : wr.ownsRow w.heap.size T s v n xs) (hnx : Mor w wr)
    (hgrow : wr.grownBy w1 v.ownBlock) : Mor w w1 := by
  refine Mor.of_below (hnx.below.grown hgrow hnx.below.size ?_)
  intro k hk
  obtain ⟨_, h | ⟨g, cap, cur, rfl, hg, _⟩⟩ := hown
  · rw [h.1] at hk; simp [Value.ownBlock] at hk
  · simp [Value.ownBlock] at hk; omega
end Go.Proofs.YtahegjhjonodlaaDoor
