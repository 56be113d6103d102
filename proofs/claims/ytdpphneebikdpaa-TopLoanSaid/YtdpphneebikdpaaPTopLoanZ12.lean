/- Rows of one's own beside stores and appends. -/
import Derived.Test.YtdpphneebikdpaaPTopLoanZ1
import Derived.Test.YtdpphneebikdpaaPTopLoanZ2
import Derived.Test.YtdpphneebikdpaaPTopLoanZ3
import Derived.Test.YtdpphneebikdpaaPTopLoanZ4
import Derived.Test.YtdpphneebikdpaaPTopLoanZ5
import Derived.Test.YtdpphneebikdpaaPTopLoanZ6
import Derived.Test.YtdpphneebikdpaaPTopLoanZ7
import Derived.Test.YtdpphneebikdpaaPTopLoanZ8
import Derived.Test.YtdpphneebikdpaaPTopLoanZ9
import Derived.Test.YtdpphneebikdpaaPTopLoanZ10
import Derived.Test.YtdpphneebikdpaaPTopLoanZ11
import Derived.Test.YtdpphneebikdpaaRows
import Derived.BigQuiet
import Derived.DataElems
import Derived.Deep.LoopGhost
import Derived.Deep.QuietTactic
import Derived.Deep.RegionLaw
import Derived.Deep.SlicePairs
import Derived.Deep.Slices
import Derived.Deep.Strs
import Derived.Handy
import Derived.Laws.AppendOwn
import Derived.Laws.Cover1
import Derived.Lib.Bytealg
import Derived.Lib.Hide
import Derived.Lib.SliceRun
import Derived.Lib.Walk
import Derived.OpenShut
import Derived.Outline
import Derived.OwnWalk
import Derived.PlainAid
import Derived.ProofKit
import Derived.RegionTactic
import Derived.Shelf.Abstract
import Derived.Sort.Walk0
import Derived.WalkKit
import Derived.WalkSpells
namespace Go.Proofs.Ytdpphneebikdpaa
open Go.ChangeShapes Go.WideShapes Go.ChangeAt Go.RowKit Go.PlainAid
set_option linter.unusedVariables false
set_option maxRecDepth 100000

theorem own_at {w w' : World} {B s n : Nat} {T : TypeId} {v : Value} {xs : List Value} (h : w.ownsRow B T s v n xs) (hb : ∀ (g : Nat) (cur : Array Value), w.heap[g]? = some (Obj.cells cur T (0, 0)) → w'.heap[g]? = w.heap[g]?) : w'.ownsRow B T s v n xs := by
  refine ⟨h.1, ?_⟩
  rcases h.2 with hn | ⟨g, cap, cur2, rfl, hg2, hh, rest⟩
  · exact .inl hn
  · exact .inr ⟨g, cap, cur2, rfl, hg2, (hb g _ hh).trans hh, rest⟩
theorem own_setT {w : World} {B s n g i : Nat} {T T' : TypeId} {v u : Value} {xs : List Value} {cs : Array Value} (h : w.ownsRow B T s v n xs) (hb : Bk w g T' cs) (hT : T ≠ T') : (w.setCell ⟨g, i, none⟩ u).ownsRow B T s v n xs :=
  own_at h fun g2 cur hg => Below.heap_setCell _ _ _ _ (by
    intro e
    simp only at e
    subst e
    unfold Bk at hb
    rw [hb] at hg
    injection hg with hg
    injection hg with _ hg _
    exact hT hg.symm)
theorem Bk.grows {w w' : World} {B g s n : Nat} {t T : TypeId} {cs : Array Value} {v : Value} {xs : List Value} (h : Bk w g t cs) (hv : w.ownsRow B T s v n xs) (hg : w.grownBy w' v.ownBlock) (hB : g < B) : Bk w' g t cs :=
  (hg.block g h.lt (fun e => by have := (own_blk hv e.symm).2.1; omega)).trans h
theorem own_grows {w w' : World} {B B' s s' n n' : Nat} {T T' : TypeId} {v v' : Value} {xs xs' : List Value} (h : w.ownsRow B T s v n xs) (hv : w.ownsRow B' T' s' v' n' xs') (hg : w.grownBy w' v'.ownBlock) (hT : T ≠ T') : w'.ownsRow B T s v n xs := by
  cases hb : v'.ownBlock with
  | none => rw [hb] at hg; exact own_kept h hg
  | some b =>
    rw [hb] at hg
    obtain ⟨_, _, cur, hc⟩ := own_blk hv hb
    exact own_other h hc hT hg
theorem qe_old (qs : List Ev) (q : Ev) (i : Nat) (h : i < qs.length) : qe (qs ++ [q]) i = qe qs i := by
  unfold qe; rw [List.getD_eq_getElem?_getD, List.getD_eq_getElem?_getD, List.getElem?_append_left h]
theorem qe_last (qs : List Ev) (q : Ev) : qe (qs ++ [q]) qs.length = q := by
  unfold qe; rw [List.getD_eq_getElem?_getD, List.getElem?_append_right (Nat.le_refl _), Nat.sub_self]; rfl
theorem lit_at {w : World} {b : Nat} (l : List Value) (C : Array Value) (t : TypeId) (hC : C = l.toArray) (hb : b = w.heap.size) : ∀ (j : Nat) (u : Value), l[j]? = some u → (w.alloc (.cells C t)).cell? ((⟨b, 0, none⟩ : Addr).add j) = some u := by
  intro j u hu
  subst hC hb
  rw [adds, Nat.zero_add, (Bk.new w t l.toArray).cell, List.getElem?_toArray]
  exact hu
theorem Bk.growT {w w' : World} {B g s n : Nat} {t T : TypeId} {cs : Array Value} {v : Value} {xs : List Value} (h : Bk w g t cs) (hv : w.ownsRow B T s v n xs) (hg : w.grownBy w' v.ownBlock) (hT : t ≠ T) : Bk w' g t cs := by
  refine (hg.block g h.lt (fun e => ?_)).trans h
  obtain ⟨_, _, cur, hc⟩ := own_blk hv e.symm
  unfold Bk at h
  rw [h] at hc
  injection hc with hc
  injection hc with _ hc _
  exact hT hc
theorem own_step {w wr w1 : World} {T : TypeId} {s : Nat} {v : Value} {n : Nat} {xs : List Value} (hown : wr.ownsRow w.heap.size T s v n xs) (hnx : Mor w wr)
    (hgrow : wr.grownBy w1 v.ownBlock) : Mor w w1 := by
  refine Mor.of_below (hnx.below.grown hgrow hnx.below.size ?_)
  intro k hk
  obtain ⟨_, h | ⟨g, cap, cur, rfl, hg, _⟩⟩ := hown
  · rw [h.1] at hk; simp [Value.ownBlock] at hk
  · simp [Value.ownBlock] at hk; omega
end Go.Proofs.Ytdpphneebikdpaa
