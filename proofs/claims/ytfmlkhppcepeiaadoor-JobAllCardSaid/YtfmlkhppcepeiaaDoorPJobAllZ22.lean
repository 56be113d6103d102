/- The walks of slices.Clone at accounts and lines, of book.Copied. -/
import Derived.Test.YtfmlkhppcepeiaaDoorPJobAllZ1
import Derived.Test.YtfmlkhppcepeiaaDoorPJobAllZ2
import Derived.Test.YtfmlkhppcepeiaaDoorPJobAllZ3
import Derived.Test.YtfmlkhppcepeiaaDoorPJobAllZ4
import Derived.Test.YtfmlkhppcepeiaaDoorPJobAllZ5
import Derived.Test.YtfmlkhppcepeiaaDoorPJobAllZ6
import Derived.Test.YtfmlkhppcepeiaaDoorPJobAllZ7
import Derived.Test.YtfmlkhppcepeiaaDoorPJobAllZ8
import Derived.Test.YtfmlkhppcepeiaaDoorPJobAllZ9
import Derived.Test.YtfmlkhppcepeiaaDoorPJobAllZ10
import Derived.Test.YtfmlkhppcepeiaaDoorPJobAllZ11
import Derived.Test.YtfmlkhppcepeiaaDoorPJobAllZ20
import Derived.Test.YtfmlkhppcepeiaaDoorPJobAllZ21
import Derived.Test.YtfmlkhppcepeiaaDoorRows
import Derived.BigQuiet
import Derived.DataElems
import Derived.Deep.DeepCutAuto
import Derived.Deep.LoopGhost
import Derived.Deep.QuietTactic
import Derived.Deep.RegionHeld3
import Derived.Deep.RegionWith
import Derived.Deep.SlicePairs
import Derived.Deep.Slices
import Derived.Deep.Strs
import Derived.Handy
import Derived.Laws.Cover1
import Derived.Lib.Bytealg
import Derived.Lib.Hide
import Derived.Lib.SliceRun
import Derived.Lib.Walk
import Derived.Maps.Own
import Derived.Maps.OwnSet
import Derived.Maps.Views
import Derived.OpenShut
import Derived.Outline
import Derived.OwnWalk
import Derived.PlainAid
import Derived.ProofKit
import Derived.RegionTactic
import Derived.Shelf.Abstract
import Derived.Sort.Walk0
import Derived.StringKeys
import Derived.WalkKit
import Derived.WalkSpells
namespace Go.Proofs.YtfmlkhppcepeiaaDoor
open Go.ChangeShapes Go.WideShapes Go.ChangeAt Go.RowKit Go.PlainAid
set_option linter.unusedVariables false

theorem info_entry : (Tryd.prog.info? 31).map (fun i => (i.zero, i.size, i.bytes)) = some (some (.agg #[.string { data := #[] }, .int .i64 0, .slice none 0 0]), 3, 48) := by kernel_rfl
@[go_sem] theorem eql_nil_ac (w : World) (a : Option Addr) (n c : Nat) : (binOp .eql 43 (.slice a n c) (.slice none 0 0)).run Tryd.prog w = .ok (.bool a.isNone) w :=
  Lib.run_eql_slice_nil w _ 67 a n c 0 0 Tryd.underlying43

theorem own_at {w w' : World} {B s n : Nat} {T : TypeId} {v : Value} {xs : List Value} (h : w.ownsRow B T s v n xs) (hb : ∀ (g : Nat) (cur : Array Value), w.heap[g]? = some (Obj.cells cur T (0, 0)) → w'.heap[g]? = w.heap[g]?) : w'.ownsRow B T s v n xs := by
  refine ⟨h.1, ?_⟩
  rcases h.2 with hn | ⟨g, cap, cur2, rfl, hg2, hh, rest⟩
  · exact .inl hn
  · exact .inr ⟨g, cap, cur2, rfl, hg2, (hb g _ hh).trans hh, rest⟩
theorem own_setT {w : World} {B s n g i : Nat} {T T' : TypeId} {v u : Value} {xs : List Value} {cs : Array Value} (h : w.ownsRow B T s v n xs) (hb : Bk w g T' cs) (hT : T ≠ T') : (w.setCell ⟨g, i, none⟩ u).ownsRow B T s v n xs :=
  own_at h fun g2 cur hg => Below.heap_setCell _ _ _ _ (by
    intro e
    simp only at e
    subst e
    unfold Bk at hb
    rw [hb] at hg
    injection hg with hg
    injection hg with _ hg _
    exact hT hg.symm)
theorem Bk.grows {w w' : World} {B g s n : Nat} {t T : TypeId} {cs : Array Value} {v : Value} {xs : List Value} (h : Bk w g t cs) (hv : w.ownsRow B T s v n xs) (hg : w.grownBy w' v.ownBlock) (hB : g < B) : Bk w' g t cs :=
  (hg.block g h.lt (fun e => by have := (own_blk hv e.symm).2.1; omega)).trans h
theorem own_grows {w w' : World} {B B' s s' n n' : Nat} {T T' : TypeId} {v v' : Value} {xs xs' : List Value} (h : w.ownsRow B T s v n xs) (hv : w.ownsRow B' T' s' v' n' xs') (hg : w.grownBy w' v'.ownBlock) (hT : T ≠ T') : w'.ownsRow B T s v n xs := by
  cases hb : v'.ownBlock with
  | none => rw [hb] at hg; exact own_kept h hg
  | some b =>
    rw [hb] at hg
    obtain ⟨_, _, cur, hc⟩ := own_blk hv hb
    exact own_other h hc hT hg
theorem qe_old (qs : List Ev) (q : Ev) (i : Nat) (h : i < qs.length) : qe (qs ++ [q]) i = qe qs i := by
  unfold qe; rw [List.getD_eq_getElem?_getD, List.getD_eq_getElem?_getD, List.getElem?_append_left h]
theorem qe_last (qs : List Ev) (q : Ev) : qe (qs ++ [q]) qs.length = q := by
  unfold qe; rw [List.getD_eq_getElem?_getD, List.getElem?_append_right (Nat.le_refl _), Nat.sub_self]; rfl

theorem lit_at {w : World} {b : Nat} (l : List Value) (C : Array Value) (t : TypeId) (hC : C = l.toArray) (hb : b = w.heap.size) : ∀ (j : Nat) (u : Value), l[j]? = some u → (w.alloc (.cells C t)).cell? ((⟨b, 0, none⟩ : Addr).add j) = some u := by
  intro j u hu
  subst hC hb
  rw [adds, Nat.zero_add, (Bk.new w t l.toArray).cell, List.getElem?_toArray]
  exact hu

end Go.Proofs.YtfmlkhppcepeiaaDoor
