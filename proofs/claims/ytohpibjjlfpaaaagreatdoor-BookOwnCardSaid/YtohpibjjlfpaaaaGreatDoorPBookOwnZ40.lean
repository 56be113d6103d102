/- Slices of integers, wherever they lie: 'Ri w A xs': the slice at A reads xs. -/
import Derived.Test.YtohpibjjlfpaaaaGreatDoorPBookOwnZ1
import Derived.Test.YtohpibjjlfpaaaaGreatDoorPBookOwnZ11
import Derived.Test.YtohpibjjlfpaaaaGreatDoorPBookOwnZ35
import Derived.Test.YtohpibjjlfpaaaaGreatDoorRows
import Derived.BigQuiet
import Derived.Deep.OwnRows
import Derived.Deep.QuietTactic
import Derived.Handy
import Derived.Lib.Hide
import Derived.OpenShut
import Derived.Outline
import Derived.OwnWalk
import Derived.ProofKit
import Derived.RegionTactic
import Derived.WalkKit
namespace Go.Proofs.YtohpibjjlfpaaaaGreatDoor
open Go.ChangeShapes Go.WideShapes Go.ChangeAt Go.RowKit
set_option linter.unusedVariables false
set_option maxRecDepth 100000

theorem Row.mor {w w' : World} {b o : Nat} {xs : List Int} (h : Row w b o xs) (hm : Mor w w') : Row w' b o xs := by
  obtain ⟨bs, k, rfl⟩ := hm; exact h.more
theorem Row.below {w w' : World} {b o : Nat} {xs : List Int} (h : Row w b o xs) (hm : Below w.heap.size w w') : Row w' b o xs := h.mor (Mor.of_below hm)
/-- the slice of integers at A reads xs -/
def Ri (w : World) (A : Option Addr) (xs : List Int) : Prop :=
  xs = [] ∨ ∃ x, A = some x ∧ x.block < w.heap.size ∧ ∀ i, i < xs.length → w.cell? (x.add i) = some (.int .i64 (xs.getD i 0))

theorem Ri.nil (w : World) (A : Option Addr) : Ri w A [] := .inl rfl
theorem add_block (x : Addr) (i : Nat) : (x.add i).block = x.block := by unfold Addr.add; split <;> rfl
theorem Ri.mor {w w' : World} {A : Option Addr} {xs : List Int} (h : Ri w A xs) (hm : Mor w w') : Ri w' A xs := by
  rcases h with h | ⟨x, e, hb, hc⟩
  · exact .inl h
  · have hB := hm.below
    exact .inr ⟨x, e, by have := hB.size; omega, fun i hi => (hB.cell (p := x.add i) (by rw [add_block]; exact hb)).trans (hc i hi)⟩
theorem Ri.below {w w' : World} {A : Option Addr} {xs : List Int} (h : Ri w A xs) (hB : Below w.heap.size w w') : Ri w' A xs := by
  rcases h with h | ⟨x, e, hb, hc⟩
  · exact .inl h
  · exact .inr ⟨x, e, by have := hB.size; omega, fun i hi => (hB.cell (p := x.add i) (by rw [add_block]; exact hb)).trans (hc i hi)⟩
theorem Ri.drewN {w : World} {A : Option Addr} {xs : List Int} {k : Nat} (h : Ri w A xs) : Ri (w.drewN k) A xs := h
theorem Ri.alloc {w : World} {A : Option Addr} {xs : List Int} {o : Obj} (h : Ri w A xs) : Ri (w.alloc o) A xs := h.mor ((Mor.refl _).alloc)
theorem Ri.up {w : World} {A : Option Addr} {xs : List Int} {cs : List Obj} {n : Nat} (h : Ri w A xs) : Ri (more w cs n) A xs := h.mor ((Mor.refl _).more)
theorem Ri.to {w : World} {A : Option Addr} {xs : List Int} {bs cs : List Obj} {k n : Nat} (h : Ri (more w bs k) A xs) (hp : bs <+: cs) : Ri (more w cs n) A xs := by
  obtain ⟨ds, rfl⟩ := hp
  rw [← more_more w bs ds k n]; exact h.up
theorem Ri.take {w : World} {A : Option Addr} {xs : List Int} {k : Nat} (h : Ri w A xs) : Ri w A (xs.take k) := by
  rcases h with h | ⟨x, e, hb, hc⟩
  · subst h; rw [List.take_nil]; exact .inl rfl
  · refine .inr ⟨x, e, hb, fun i hi => ?_⟩
    rw [List.length_take] at hi
    rw [hc i (by omega), List.getD_eq_getElem?_getD, List.getD_eq_getElem?_getD, List.getElem?_take, if_pos (by omega)]
theorem Ri.at_ {w : World} {A : Option Addr} {xs : List Int} (h : Ri w A xs) (i : Nat) (hi : i < xs.length) : ∃ x, A = some x ∧ x.block < w.heap.size ∧ w.cell? (x.add i) = some (.int .i64 (xs.getD i 0)) := by
  rcases h with h | ⟨x, e, hb, hc⟩
  · subst h; simp at hi
  · exact ⟨x, e, hb, hc i hi⟩
/-- the cells of the integers xs -/
def ic (xs : List Int) : Array Value := (xs.map (Value.int .i64)).toArray
theorem ic_get (xs : List Int) (i : Nat) (h : i < xs.length) : (ic xs)[i]? = some (.int .i64 (xs.getD i 0)) := by
  simp [ic, List.getD_eq_getElem?_getD, h]
/-- block g of the heap is just the cells cs -/
def Blk (w : World) (g : Nat) (t : TypeId) (cs : Array Value) : Prop := w.heap[g]? = some (.cells cs t (0, 0))
section
variable {w w' : World} {g : Nat} {t : TypeId} {cs : Array Value}
theorem Blk.lt (h : Blk w g t cs) : g < w.heap.size := by
  rcases Nat.lt_or_ge g w.heap.size with hlt | hge
  · exact hlt
  · unfold Blk at h; rw [Array.getElem?_eq_none hge] at h; cases h
theorem Blk.cell (h : Blk w g t cs) (i : Nat) : w.cell? ⟨g, i, none⟩ = cs[i]? := by
  unfold Blk at h
  simp [World.cell?, h]
theorem Blk.frozen (h : Blk w g t cs) (i : Nat) : w.frozen? ⟨g, i, none⟩ = false := by
  unfold Blk at h
  simp [World.frozen?, h]
theorem Blk.new (w : World) (t : TypeId) (cs : Array Value) : Blk (w.alloc (.cells cs t)) w.heap.size t cs := heap_alloc_new w _
theorem Blk.drewN (h : Blk w g t cs) (n : Nat) : Blk (w.drewN n) g t cs := h
theorem Blk.drew (h : Blk w g t cs) : Blk w.drew g t cs := h
theorem Blk.alloc (h : Blk w g t cs) (o : Obj) : Blk (w.alloc o) g t cs := (Below.heap_alloc w o g h.lt).trans h
theorem Blk.set_ (h : Blk w g t cs) (i : Nat) (u : Value) : Blk (w.setCell ⟨g, i, none⟩ u) g t (cs.setIfInBounds i u) := by
  unfold Blk at h ⊢
  simp [World.setCell, Array.getElem?_modify, h]
theorem Blk.below {B : Nat} (h : Blk w g t cs) (hb : Below B w w') (hg : g < B) : Blk w' g t cs := (hb.block g hg).trans h
end
theorem Row.far {w w' : World} {b o : Nat} {xs : List Int} (h : Row w b o xs) (hs : b < w'.heap.size) (hf : ∀ q : Addr, q.block = b → w'.cell? q = w.cell? q) : Row w' b o xs :=
  ⟨hs, fun i hi => (hf _ rfl).trans (h.2 i hi)⟩
theorem Blk.row {w : World} {g : Nat} {t : TypeId} {xs : List Int} (h : Blk w g t (ic xs)) : Row w g 0 xs :=
  ⟨h.lt, fun i hi => by rw [Nat.zero_add, h.cell, ic_get _ _ hi]⟩

/-- the cells cur begin with the integers xs -/
def CurR (cur : Array Value) (xs : List Int) : Prop := ∀ i, i < xs.length → cur[i]? = some (.int .i64 (xs.getD i 0))
theorem CurR.set {cur : Array Value} {xs : List Int} (h : CurR cur xs) (i : Nat) (v : Int) : CurR (cur.setIfInBounds i (.int .i64 v)) (xs.set i v) := by
  intro j hj
  rw [List.length_set] at hj
  have hs : j < cur.size := by
    rcases Nat.lt_or_ge j cur.size with a | a
    · exact a
    · have := h j hj; rw [Array.getElem?_eq_none a] at this; cases this
  rw [Array.getElem?_setIfInBounds, List.getD_eq_getElem?_getD, List.getElem?_set]
  by_cases e : i = j
  · subst e; rw [if_pos rfl, if_pos hs, if_pos rfl, if_pos hj]; rfl
  · rw [if_neg e, if_neg e, h j hj, List.getD_eq_getElem?_getD]
theorem CurR.row {w : World} {g : Nat} {T : TypeId} {cur : Array Value} {xs : List Int} (h : CurR cur xs) (hb : Blk w g T cur) : Row w g 0 xs :=
  ⟨hb.lt, fun i hi => by rw [Nat.zero_add, hb.cell]; exact h i hi⟩
end Go.Proofs.YtohpibjjlfpaaaaGreatDoor
