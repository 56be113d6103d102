/- The world after a call that made blocks and drew orders: 'more w bs k'. Lemmas for the walk. No program in sight. -/
import Derived.BigQuiet
import Derived.Deep.QuietTactic
import Derived.Handy
import Derived.Lib.Hide
import Derived.OpenShut
import Derived.Outline
import Derived.ProofKit
import Derived.RegionTactic
import Derived.WalkKit
namespace Go.Proofs.YtohpibjjlfpaaaaGreatDoor
open Go.ChangeShapes Go.WideShapes Go.ChangeAt Go.RowKit
set_option maxRecDepth 100000

theorem ret_i {k : IntKind} {a b : Int} (h : a = b) : Ending.returned (.int k a) = .returned (.int k b) := by rw [h]

/- draws outermost -/
@[go_sem, simp] theorem alloc_drewN (w : World) (k : Nat) (o : Obj) : (w.drewN k).alloc o = (w.alloc o).drewN k := rfl
@[go_sem, simp] theorem setCell_drewN (w : World) (k : Nat) (a : Addr) (v : Value) : (w.drewN k).setCell a v = (w.setCell a v).drewN k := rfl

theorem bel_dN {B : Nat} {w w' : World} {k : Nat} (h : Below B w w') : Below B w (w'.drewN k) := ⟨h.os, h.tape, h.output, h.size, h.block⟩

/-- w with the blocks bs behind its own, the count of draws at k -/
def more (w : World) (bs : List Obj) (k : Nat) : World := { w with heap := w.heap ++ bs.toArray, drawn := k }

theorem more_zero (w : World) : w = more w [] w.drawn := by simp [more]
theorem more_alloc (w : World) (bs : List Obj) (k : Nat) (o : Obj) : (more w bs k).alloc o = more w (bs ++ [o]) k := by
  simp [more, World.alloc]
theorem alloc_more (w : World) (o : Obj) : w.alloc o = more w [o] w.drawn := by
  show ({ w with heap := w.heap.push o } : World) = { w with heap := w.heap ++ [o].toArray, drawn := w.drawn }
  simp
theorem more_drewN (w : World) (bs : List Obj) (k n : Nat) : (more w bs k).drewN n = more w bs (k + n) := by
  simp [more, World.drewN]
theorem more_drew (w : World) (bs : List Obj) (k : Nat) : (more w bs k).drew = more w bs (k + 1) := by
  simp [more, World.drew]
@[go_sem, simp] theorem drewN_more (w : World) (bs : List Obj) (k n : Nat) : more (w.drewN n) bs k = more w bs k := by
  simp [more, World.drewN]
@[go_sem, simp] theorem drew_more (w : World) (bs : List Obj) (k : Nat) : more w.drew bs k = more w bs k := by
  show ({ w with heap := w.heap ++ bs.toArray, drawn := k } : World) = { w with heap := w.heap ++ bs.toArray, drawn := k }
  rfl
@[go_sem, simp] theorem more_more (w : World) (bs cs : List Obj) (k n : Nat) : more (more w bs k) cs n = more w (bs ++ cs) n := by
  simp [more]
/-- a world below whose first blocks nothing has turned is such a one -/
theorem more_of_below {w w' : World} (h : Below w.heap.size w w') : ∃ bs, w' = more w bs w'.drawn := by
  refine ⟨w'.heap.toList.drop w.heap.size, ?_⟩
  have e : w'.heap = w.heap ++ (w'.heap.toList.drop w.heap.size).toArray := by
    apply Array.ext_getElem?
    intro i
    rw [Array.getElem?_append]
    by_cases hi : i < w.heap.size
    · rw [if_pos hi, h.block i hi]
    · rw [if_neg hi]
      simp only [List.getElem?_toArray, List.getElem?_drop, Array.getElem?_toList]
      rw [show w.heap.size + (i - w.heap.size) = i by omega]
  obtain ⟨heap, tape, drawn, os, output⟩ := w
  obtain ⟨heap', tape', drawn', os', output'⟩ := w'
  have h1 := h.os
  have h2 := h.tape
  have h3 := h.output
  simp only at h1 h2 h3 e
  subst h1 h2 h3
  simp only [more, World.mk.injEq, and_true]
  exact e
@[go_sem, simp] theorem size_more (w : World) (bs : List Obj) (k : Nat) : (more w bs k).heap.size = w.heap.size + bs.length := by
  simp [more]
theorem block_more (w : World) (bs : List Obj) (k i : Nat) (h : i < w.heap.size) : (more w bs k).heap[i]? = w.heap[i]? := by
  simp [more, Array.getElem?_append_left h]
theorem block_more_new (w : World) (bs : List Obj) (k j : Nat) : (more w bs k).heap[w.heap.size + j]? = bs[j]? := by
  simp only [more]
  rw [Array.getElem?_append_right (by omega)]
  simp
@[go_sem] theorem cell?_more (w : World) (bs : List Obj) (k n i : Nat) (h : n < w.heap.size) : (more w bs k).cell? ⟨n, i, none⟩ = w.cell? ⟨n, i, none⟩ :=
  World.cell?_of_block (block_more w bs k n h)
@[go_sem] theorem frozen?_more (w : World) (bs : List Obj) (k n i : Nat) (h : n < w.heap.size) : (more w bs k).frozen? ⟨n, i, none⟩ = w.frozen? ⟨n, i, none⟩ :=
  World.frozen?_of_block (block_more w bs k n h)
@[go_sem] theorem setCell_more (w : World) (bs : List Obj) (k n i : Nat) (v : Value) (h : n < w.heap.size) : (more w bs k).setCell ⟨n, i, none⟩ v = more (w.setCell ⟨n, i, none⟩ v) bs k := by
  simp only [more, World.setCell]
  congr 1
  apply Array.ext_getElem?
  intro j
  simp only [Array.getElem?_modify, Array.getElem?_append, Array.size_modify]
  by_cases hj : j = n
  · subst hj; simp [h]
  · have : ¬ n = j := fun e => hj e.symm
    simp [this]

/- block numbers: a block lies ahead of what was made behind it -/
@[go_sem] theorem blt0 (a : Nat) : (a < a + 1) = True := eq_true (by omega)
@[go_sem] theorem bne0 (a : Nat) : (a = a + 1) = False := eq_false (by omega)
@[go_sem] theorem bnf0 (a : Nat) : (a + 1 = a) = False := eq_false (by omega)
@[go_sem] theorem blt1 (a x0 : Nat) : (a < a + 1 + x0) = True := eq_true (by omega)
@[go_sem] theorem bne1 (a x0 : Nat) : (a = a + 1 + x0) = False := eq_false (by omega)
@[go_sem] theorem bnf1 (a x0 : Nat) : (a + 1 + x0 = a) = False := eq_false (by omega)
@[go_sem] theorem blt2 (a x0 x1 : Nat) : (a < a + 1 + x0 + x1) = True := eq_true (by omega)
@[go_sem] theorem bne2 (a x0 x1 : Nat) : (a = a + 1 + x0 + x1) = False := eq_false (by omega)
@[go_sem] theorem bnf2 (a x0 x1 : Nat) : (a + 1 + x0 + x1 = a) = False := eq_false (by omega)
@[go_sem] theorem blt3 (a x0 x1 x2 : Nat) : (a < a + 1 + x0 + x1 + x2) = True := eq_true (by omega)
@[go_sem] theorem bne3 (a x0 x1 x2 : Nat) : (a = a + 1 + x0 + x1 + x2) = False := eq_false (by omega)
@[go_sem] theorem bnf3 (a x0 x1 x2 : Nat) : (a + 1 + x0 + x1 + x2 = a) = False := eq_false (by omega)
@[go_sem] theorem blt4 (a x0 x1 x2 x3 : Nat) : (a < a + 1 + x0 + x1 + x2 + x3) = True := eq_true (by omega)
@[go_sem] theorem bne4 (a x0 x1 x2 x3 : Nat) : (a = a + 1 + x0 + x1 + x2 + x3) = False := eq_false (by omega)
@[go_sem] theorem bnf4 (a x0 x1 x2 x3 : Nat) : (a + 1 + x0 + x1 + x2 + x3 = a) = False := eq_false (by omega)
@[go_sem] theorem blt5 (a x0 x1 x2 x3 x4 : Nat) : (a < a + 1 + x0 + x1 + x2 + x3 + x4) = True := eq_true (by omega)
@[go_sem] theorem bne5 (a x0 x1 x2 x3 x4 : Nat) : (a = a + 1 + x0 + x1 + x2 + x3 + x4) = False := eq_false (by omega)
@[go_sem] theorem bnf5 (a x0 x1 x2 x3 x4 : Nat) : (a + 1 + x0 + x1 + x2 + x3 + x4 = a) = False := eq_false (by omega)
@[go_sem] theorem blt6 (a x0 x1 x2 x3 x4 x5 : Nat) : (a < a + 1 + x0 + x1 + x2 + x3 + x4 + x5) = True := eq_true (by omega)
@[go_sem] theorem bne6 (a x0 x1 x2 x3 x4 x5 : Nat) : (a = a + 1 + x0 + x1 + x2 + x3 + x4 + x5) = False := eq_false (by omega)
@[go_sem] theorem bnf6 (a x0 x1 x2 x3 x4 x5 : Nat) : (a + 1 + x0 + x1 + x2 + x3 + x4 + x5 = a) = False := eq_false (by omega)
@[go_sem] theorem blt7 (a x0 x1 x2 x3 x4 x5 x6 : Nat) : (a < a + 1 + x0 + x1 + x2 + x3 + x4 + x5 + x6) = True := eq_true (by omega)
@[go_sem] theorem bne7 (a x0 x1 x2 x3 x4 x5 x6 : Nat) : (a = a + 1 + x0 + x1 + x2 + x3 + x4 + x5 + x6) = False := eq_false (by omega)
@[go_sem] theorem bnf7 (a x0 x1 x2 x3 x4 x5 x6 : Nat) : (a + 1 + x0 + x1 + x2 + x3 + x4 + x5 + x6 = a) = False := eq_false (by omega)
@[go_sem] theorem blt8 (a x0 x1 x2 x3 x4 x5 x6 x7 : Nat) : (a < a + 1 + x0 + x1 + x2 + x3 + x4 + x5 + x6 + x7) = True := eq_true (by omega)
@[go_sem] theorem bne8 (a x0 x1 x2 x3 x4 x5 x6 x7 : Nat) : (a = a + 1 + x0 + x1 + x2 + x3 + x4 + x5 + x6 + x7) = False := eq_false (by omega)
@[go_sem] theorem bnf8 (a x0 x1 x2 x3 x4 x5 x6 x7 : Nat) : (a + 1 + x0 + x1 + x2 + x3 + x4 + x5 + x6 + x7 = a) = False := eq_false (by omega)
@[go_sem] theorem blt9 (a x0 x1 x2 x3 x4 x5 x6 x7 x8 : Nat) : (a < a + 1 + x0 + x1 + x2 + x3 + x4 + x5 + x6 + x7 + x8) = True := eq_true (by omega)
@[go_sem] theorem bne9 (a x0 x1 x2 x3 x4 x5 x6 x7 x8 : Nat) : (a = a + 1 + x0 + x1 + x2 + x3 + x4 + x5 + x6 + x7 + x8) = False := eq_false (by omega)
@[go_sem] theorem bnf9 (a x0 x1 x2 x3 x4 x5 x6 x7 x8 : Nat) : (a + 1 + x0 + x1 + x2 + x3 + x4 + x5 + x6 + x7 + x8 = a) = False := eq_false (by omega)
@[go_sem] theorem blt10 (a x0 x1 x2 x3 x4 x5 x6 x7 x8 x9 : Nat) : (a < a + 1 + x0 + x1 + x2 + x3 + x4 + x5 + x6 + x7 + x8 + x9) = True := eq_true (by omega)
@[go_sem] theorem bne10 (a x0 x1 x2 x3 x4 x5 x6 x7 x8 x9 : Nat) : (a = a + 1 + x0 + x1 + x2 + x3 + x4 + x5 + x6 + x7 + x8 + x9) = False := eq_false (by omega)
@[go_sem] theorem bnf10 (a x0 x1 x2 x3 x4 x5 x6 x7 x8 x9 : Nat) : (a + 1 + x0 + x1 + x2 + x3 + x4 + x5 + x6 + x7 + x8 + x9 = a) = False := eq_false (by omega)
@[go_sem] theorem blt11 (a x0 x1 x2 x3 x4 x5 x6 x7 x8 x9 x10 : Nat) : (a < a + 1 + x0 + x1 + x2 + x3 + x4 + x5 + x6 + x7 + x8 + x9 + x10) = True := eq_true (by omega)
@[go_sem] theorem bne11 (a x0 x1 x2 x3 x4 x5 x6 x7 x8 x9 x10 : Nat) : (a = a + 1 + x0 + x1 + x2 + x3 + x4 + x5 + x6 + x7 + x8 + x9 + x10) = False := eq_false (by omega)
@[go_sem] theorem bnf11 (a x0 x1 x2 x3 x4 x5 x6 x7 x8 x9 x10 : Nat) : (a + 1 + x0 + x1 + x2 + x3 + x4 + x5 + x6 + x7 + x8 + x9 + x10 = a) = False := eq_false (by omega)
@[go_sem] theorem blt12 (a x0 x1 x2 x3 x4 x5 x6 x7 x8 x9 x10 x11 : Nat) : (a < a + 1 + x0 + x1 + x2 + x3 + x4 + x5 + x6 + x7 + x8 + x9 + x10 + x11) = True := eq_true (by omega)
@[go_sem] theorem bne12 (a x0 x1 x2 x3 x4 x5 x6 x7 x8 x9 x10 x11 : Nat) : (a = a + 1 + x0 + x1 + x2 + x3 + x4 + x5 + x6 + x7 + x8 + x9 + x10 + x11) = False := eq_false (by omega)
@[go_sem] theorem bnf12 (a x0 x1 x2 x3 x4 x5 x6 x7 x8 x9 x10 x11 : Nat) : (a + 1 + x0 + x1 + x2 + x3 + x4 + x5 + x6 + x7 + x8 + x9 + x10 + x11 = a) = False := eq_false (by omega)
@[go_sem] theorem blt13 (a x0 x1 x2 x3 x4 x5 x6 x7 x8 x9 x10 x11 x12 : Nat) : (a < a + 1 + x0 + x1 + x2 + x3 + x4 + x5 + x6 + x7 + x8 + x9 + x10 + x11 + x12) = True := eq_true (by omega)
@[go_sem] theorem bne13 (a x0 x1 x2 x3 x4 x5 x6 x7 x8 x9 x10 x11 x12 : Nat) : (a = a + 1 + x0 + x1 + x2 + x3 + x4 + x5 + x6 + x7 + x8 + x9 + x10 + x11 + x12) = False := eq_false (by omega)
@[go_sem] theorem bnf13 (a x0 x1 x2 x3 x4 x5 x6 x7 x8 x9 x10 x11 x12 : Nat) : (a + 1 + x0 + x1 + x2 + x3 + x4 + x5 + x6 + x7 + x8 + x9 + x10 + x11 + x12 = a) = False := eq_false (by omega)
@[go_sem] theorem blt14 (a x0 x1 x2 x3 x4 x5 x6 x7 x8 x9 x10 x11 x12 x13 : Nat) : (a < a + 1 + x0 + x1 + x2 + x3 + x4 + x5 + x6 + x7 + x8 + x9 + x10 + x11 + x12 + x13) = True := eq_true (by omega)
@[go_sem] theorem bne14 (a x0 x1 x2 x3 x4 x5 x6 x7 x8 x9 x10 x11 x12 x13 : Nat) : (a = a + 1 + x0 + x1 + x2 + x3 + x4 + x5 + x6 + x7 + x8 + x9 + x10 + x11 + x12 + x13) = False := eq_false (by omega)
@[go_sem] theorem bnf14 (a x0 x1 x2 x3 x4 x5 x6 x7 x8 x9 x10 x11 x12 x13 : Nat) : (a + 1 + x0 + x1 + x2 + x3 + x4 + x5 + x6 + x7 + x8 + x9 + x10 + x11 + x12 + x13 = a) = False := eq_false (by omega)

/-- 'w'' is w with blocks and draws more: what a call that writes nothing of what was there leaves -/
def Mor (w w' : World) : Prop := ∃ bs k, w' = more w bs k
theorem Mor.refl (w : World) : Mor w w := ⟨[], w.drawn, more_zero w⟩
theorem Mor.of_below {w w' : World} (h : Below w.heap.size w w') : Mor w w' := by
  obtain ⟨bs, e⟩ := more_of_below h; exact ⟨bs, _, e⟩
theorem Mor.drewN {w w' : World} {k : Nat} (h : Mor w w') : Mor w (w'.drewN k) := by
  obtain ⟨bs, n, rfl⟩ := h; exact ⟨bs, n + k, more_drewN ..⟩
theorem Mor.drew {w w' : World} (h : Mor w w') : Mor w w'.drew := by
  obtain ⟨bs, n, rfl⟩ := h; exact ⟨bs, n + 1, more_drew ..⟩
theorem Mor.alloc {w w' : World} {o : Obj} (h : Mor w w') : Mor w (w'.alloc o) := by
  obtain ⟨bs, n, rfl⟩ := h; exact ⟨bs ++ [o], n, more_alloc ..⟩
theorem Mor.more {w w' : World} {bs : List Obj} {k : Nat} (h : Mor w w') : Mor w (more w' bs k) := by
  obtain ⟨cs, n, rfl⟩ := h; exact ⟨_, _, more_more ..⟩
theorem Mor.below {w w' : World} (h : Mor w w') : Below w.heap.size w w' := by
  obtain ⟨bs, k, rfl⟩ := h
  exact ⟨rfl, rfl, rfl, by rw [size_more]; omega, fun i hi => block_more w bs k i hi⟩

end Go.Proofs.YtohpibjjlfpaaaaGreatDoor

/- Worlds that follow one another; addresses. -/
namespace Go.Proofs.YtohpibjjlfpaaaaGreatDoor
open Go.ChangeShapes Go.WideShapes Go.ChangeAt Go.RowKit
set_option linter.unusedVariables false
set_option maxRecDepth 100000

theorem Mor.trans' {w w1 w2 : World} (h : Mor w w1) (h' : Mor w1 w2) : Mor w w2 := by
  obtain ⟨bs, k, rfl⟩ := h'; exact h.more
theorem addb (x : Addr) (i : Nat) : (x.add i).block = x.block := by unfold Addr.add; split <;> rfl
theorem adds (b o i : Nat) : (⟨b, o, none⟩ : Addr).add i = ⟨b, o + i, none⟩ := by
  unfold Addr.add; split
  · subst_vars; rfl
  · rfl

end Go.Proofs.YtohpibjjlfpaaaaGreatDoor

/- A block of the heap whose cells are known: 'Bk w g t cs'. -/
namespace Go.Proofs.YtohpibjjlfpaaaaGreatDoor
open Go.ChangeShapes Go.WideShapes Go.ChangeAt Go.RowKit
set_option linter.unusedVariables false
set_option maxRecDepth 100000

def Bk (w : World) (g : Nat) (t : TypeId) (cs : Array Value) : Prop := w.heap[g]? = some (.cells cs t (0, 0))
section
variable {w w' : World} {g : Nat} {t : TypeId} {cs : Array Value}
theorem Bk.lt (h : Bk w g t cs) : g < w.heap.size := by
  rcases Nat.lt_or_ge g w.heap.size with hlt | hge
  · exact hlt
  · unfold Bk at h; rw [Array.getElem?_eq_none hge] at h; cases h
theorem Bk.cell (h : Bk w g t cs) (i : Nat) : w.cell? ⟨g, i, none⟩ = cs[i]? := by
  unfold Bk at h
  simp [World.cell?, h]
theorem Bk.frozen (h : Bk w g t cs) (i : Nat) : w.frozen? ⟨g, i, none⟩ = false := by
  unfold Bk at h
  simp [World.frozen?, h]
theorem Bk.new (w : World) (t : TypeId) (cs : Array Value) : Bk (w.alloc (.cells cs t)) w.heap.size t cs := heap_alloc_new w _
theorem Bk.drewN (h : Bk w g t cs) (n : Nat) : Bk (w.drewN n) g t cs := h
theorem Bk.drew (h : Bk w g t cs) : Bk w.drew g t cs := h
theorem Bk.alloc (h : Bk w g t cs) (o : Obj) : Bk (w.alloc o) g t cs := (Below.heap_alloc w o g h.lt).trans h
theorem Bk.more (h : Bk w g t cs) (bs : List Obj) (k : Nat) : Bk (Go.Proofs.YtohpibjjlfpaaaaGreatDoor.more w bs k) g t cs := (block_more w bs k g h.lt).trans h
theorem Bk.set_ (h : Bk w g t cs) (i : Nat) (u : Value) : Bk (w.setCell ⟨g, i, none⟩ u) g t (cs.setIfInBounds i u) := by
  unfold Bk at h ⊢
  simp [World.setCell, Array.getElem?_modify, h]
theorem Bk.set_other (h : Bk w g t cs) (g' i : Nat) (u : Value) (hg : g ≠ g') : Bk (w.setCell ⟨g', i, none⟩ u) g t cs := (Below.heap_setCell _ _ _ _ hg).trans h
theorem Bk.below {B : Nat} (h : Bk w g t cs) (hb : Below B w w') (hg : g < B) : Bk w' g t cs := (hb.block g hg).trans h
theorem Bk.mor (h : Bk w g t cs) (hm : Mor w w') : Bk w' g t cs := h.below hm.below h.lt
end

end Go.Proofs.YtohpibjjlfpaaaaGreatDoor
