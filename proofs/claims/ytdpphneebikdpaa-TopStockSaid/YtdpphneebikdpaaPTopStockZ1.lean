/- The world after a call that made blocks and drew orders: 'more w bs k'. Lemmas for the walk. No program in sight. -/
import Derived.BigQuiet
import Derived.Deep.QuietTactic
import Derived.Handy
import Derived.Lib.Hide
import Derived.OpenShut
import Derived.Outline
import Derived.ProofKit
import Derived.RegionTactic
import Derived.WalkKit
namespace Go.Proofs.Ytdpphneebikdpaa
open Go.ChangeShapes Go.WideShapes Go.ChangeAt Go.RowKit
set_option maxRecDepth 100000

theorem ret_b {a : Bool} (h : a = true) : Ending.returned (.bool a) = .returned (.bool true) := by rw [h]
theorem ret_i {k : IntKind} {a b : Int} (h : a = b) : Ending.returned (.int k a) = .returned (.int k b) := by rw [h]

/- draws outermost -/
@[go_sem, simp] theorem alloc_drewN (w : World) (k : Nat) (o : Obj) : (w.drewN k).alloc o = (w.alloc o).drewN k := rfl
@[go_sem, simp] theorem setCell_drewN (w : World) (k : Nat) (a : Addr) (v : Value) : (w.drewN k).setCell a v = (w.setCell a v).drewN k := rfl

theorem bel_dN {B : Nat} {w w' : World} {k : Nat} (h : Below B w w') : Below B w (w'.drewN k) := ⟨h.os, h.tape, h.output, h.size, h.block⟩

/-- w with the blocks bs behind its own, the count of draws at k -/
def more (w : World) (bs : List Obj) (k : Nat) : World := { w with heap := w.heap ++ bs.toArray, drawn := k }

theorem more_zero (w : World) : w = more w [] w.drawn := by simp [more]
theorem more_alloc (w : World) (bs : List Obj) (k : Nat) (o : Obj) : (more w bs k).alloc o = more w (bs ++ [o]) k := by
  simp [more, World.alloc]
theorem alloc_more (w : World) (o : Obj) : w.alloc o = more w [o] w.drawn := by
  show ({ w with heap := w.heap.push o } : World) = { w with heap := w.heap ++ [o].toArray, drawn := w.drawn }
  simp
theorem more_drewN (w : World) (bs : List Obj) (k n : Nat) : (more w bs k).drewN n = more w bs (k + n) := by
  simp [more, World.drewN]
theorem more_drew (w : World) (bs : List Obj) (k : Nat) : (more w bs k).drew = more w bs (k + 1) := by
  simp [more, World.drew]
@[go_sem, simp] theorem drewN_more (w : World) (bs : List Obj) (k n : Nat) : more (w.drewN n) bs k = more w bs k := by
  simp [more, World.drewN]
@[go_sem, simp] theorem drew_more (w : World) (bs : List Obj) (k : Nat) : more w.drew bs k = more w bs k := by
  show ({ w with heap := w.heap ++ bs.toArray, drawn := k } : World) = { w with heap := w.heap ++ bs.toArray, drawn := k }
  rfl
@[go_sem, simp] theorem more_more (w : World) (bs cs : List Obj) (k n : Nat) : more (more w bs k) cs n = more w (bs ++ cs) n := by
  simp [more]
/-- a world below whose first blocks nothing has turned is such a one -/
theorem more_of_below {w w' : World} (h : Below w.heap.size w w') : ∃ bs, w' = more w bs w'.drawn := by
  refine ⟨w'.heap.toList.drop w.heap.size, ?_⟩
  have e : w'.heap = w.heap ++ (w'.heap.toList.drop w.heap.size).toArray := by
    apply Array.ext_getElem?
    intro i
    rw [Array.getElem?_append]
    by_cases hi : i < w.heap.size
    · rw [if_pos hi, h.block i hi]
    · rw [if_neg hi]
      simp only [List.getElem?_toArray, List.getElem?_drop, Array.getElem?_toList]
      rw [show w.heap.size + (i - w.heap.size) = i by omega]
  obtain ⟨heap, tape, drawn, os, output⟩ := w
  obtain ⟨heap', tape', drawn', os', output'⟩ := w'
  have h1 := h.os
  have h2 := h.tape
  have h3 := h.output
  simp only at h1 h2 h3 e
  subst h1 h2 h3
  simp only [more, World.mk.injEq, and_true]
  exact e
@[go_sem, simp] theorem size_more (w : World) (bs : List Obj) (k : Nat) : (more w bs k).heap.size = w.heap.size + bs.length := by
  simp [more]
theorem block_more (w : World) (bs : List Obj) (k i : Nat) (h : i < w.heap.size) : (more w bs k).heap[i]? = w.heap[i]? := by
  simp [more, Array.getElem?_append_left h]
theorem block_more_new (w : World) (bs : List Obj) (k j : Nat) : (more w bs k).heap[w.heap.size + j]? = bs[j]? := by
  simp only [more]
  rw [Array.getElem?_append_right (by omega)]
  simp
@[go_sem] theorem cell?_more (w : World) (bs : List Obj) (k n i : Nat) (h : n < w.heap.size) : (more w bs k).cell? ⟨n, i, none⟩ = w.cell? ⟨n, i, none⟩ :=
  World.cell?_of_block (block_more w bs k n h)
@[go_sem] theorem frozen?_more (w : World) (bs : List Obj) (k n i : Nat) (h : n < w.heap.size) : (more w bs k).frozen? ⟨n, i, none⟩ = w.frozen? ⟨n, i, none⟩ :=
  World.frozen?_of_block (block_more w bs k n h)
@[go_sem] theorem setCell_more (w : World) (bs : List Obj) (k n i : Nat) (v : Value) (h : n < w.heap.size) : (more w bs k).setCell ⟨n, i, none⟩ v = more (w.setCell ⟨n, i, none⟩ v) bs k := by
  simp only [more, World.setCell]
  congr 1
  apply Array.ext_getElem?
  intro j
  simp only [Array.getElem?_modify, Array.getElem?_append, Array.size_modify]
  by_cases hj : j = n
  · subst hj; simp [h]
  · have : ¬ n = j := fun e => hj e.symm
    simp [this]

/- block numbers: a block lies ahead of what was made behind it -/
@[go_sem] theorem blt0 (a : Nat) : (a < a + 1) = True := eq_true (by omega)
@[go_sem] theorem bne0 (a : Nat) : (a = a + 1) = False := eq_false (by omega)
@[go_sem] theorem bnf0 (a : Nat) : (a + 1 = a) = False := eq_false (by omega)
@[go_sem] theorem blt1 (a x0 : Nat) : (a < a + 1 + x0) = True := eq_true (by omega)
@[go_sem] theorem bne1 (a x0 : Nat) : (a = a + 1 + x0) = False := eq_false (by omega)
@[go_sem] theorem bnf1 (a x0 : Nat) : (a + 1 + x0 = a) = False := eq_false (by omega)
@[go_sem] theorem blt2 (a x0 x1 : Nat) : (a < a + 1 + x0 + x1) = True := eq_true (by omega)
@[go_sem] theorem bne2 (a x0 x1 : Nat) : (a = a + 1 + x0 + x1) = False := eq_false (by omega)
@[go_sem] theorem bnf2 (a x0 x1 : Nat) : (a + 1 + x0 + x1 = a) = False := eq_false (by omega)
@[go_sem] theorem blt3 (a x0 x1 x2 : Nat) : (a < a + 1 + x0 + x1 + x2) = True := eq_true (by omega)
@[go_sem] theorem bne3 (a x0 x1 x2 : Nat) : (a = a + 1 + x0 + x1 + x2) = False := eq_false (by omega)
@[go_sem] theorem bnf3 (a x0 x1 x2 : Nat) : (a + 1 + x0 + x1 + x2 = a) = False := eq_false (by omega)
@[go_sem] theorem blt4 (a x0 x1 x2 x3 : Nat) : (a < a + 1 + x0 + x1 + x2 + x3) = True := eq_true (by omega)
@[go_sem] theorem bne4 (a x0 x1 x2 x3 : Nat) : (a = a + 1 + x0 + x1 + x2 + x3) = False := eq_false (by omega)
@[go_sem] theorem bnf4 (a x0 x1 x2 x3 : Nat) : (a + 1 + x0 + x1 + x2 + x3 = a) = False := eq_false (by omega)
@[go_sem] theorem blt5 (a x0 x1 x2 x3 x4 : Nat) : (a < a + 1 + x0 + x1 + x2 + x3 + x4) = True := eq_true (by omega)
@[go_sem] theorem bne5 (a x0 x1 x2 x3 x4 : Nat) : (a = a + 1 + x0 + x1 + x2 + x3 + x4) = False := eq_false (by omega)
@[go_sem] theorem bnf5 (a x0 x1 x2 x3 x4 : Nat) : (a + 1 + x0 + x1 + x2 + x3 + x4 = a) = False := eq_false (by omega)
@[go_sem] theorem blt6 (a x0 x1 x2 x3 x4 x5 : Nat) : (a < a + 1 + x0 + x1 + x2 + x3 + x4 + x5) = True := eq_true (by omega)
@[go_sem] theorem bne6 (a x0 x1 x2 x3 x4 x5 : Nat) : (a = a + 1 + x0 + x1 + x2 + x3 + x4 + x5) = False := eq_false (by omega)
@[go_sem] theorem bnf6 (a x0 x1 x2 x3 x4 x5 : Nat) : (a + 1 + x0 + x1 + x2 + x3 + x4 + x5 = a) = False := eq_false (by omega)
@[go_sem] theorem blt7 (a x0 x1 x2 x3 x4 x5 x6 : Nat) : (a < a + 1 + x0 + x1 + x2 + x3 + x4 + x5 + x6) = True := eq_true (by omega)
@[go_sem] theorem bne7 (a x0 x1 x2 x3 x4 x5 x6 : Nat) : (a = a + 1 + x0 + x1 + x2 + x3 + x4 + x5 + x6) = False := eq_false (by omega)
@[go_sem] theorem bnf7 (a x0 x1 x2 x3 x4 x5 x6 : Nat) : (a + 1 + x0 + x1 + x2 + x3 + x4 + x5 + x6 = a) = False := eq_false (by omega)
@[go_sem] theorem blt8 (a x0 x1 x2 x3 x4 x5 x6 x7 : Nat) : (a < a + 1 + x0 + x1 + x2 + x3 + x4 + x5 + x6 + x7) = True := eq_true (by omega)
@[go_sem] theorem bne8 (a x0 x1 x2 x3 x4 x5 x6 x7 : Nat) : (a = a + 1 + x0 + x1 + x2 + x3 + x4 + x5 + x6 + x7) = False := eq_false (by omega)
@[go_sem] theorem bnf8 (a x0 x1 x2 x3 x4 x5 x6 x7 : Nat) : (a + 1 + x0 + x1 + x2 + x3 + x4 + x5 + x6 + x7 = a) = False := eq_false (by omega)
@[go_sem] theorem blt9 (a x0 x1 x2 x3 x4 x5 x6 x7 x8 : Nat) : (a < a + 1 + x0 + x1 + x2 + x3 + x4 + x5 + x6 + x7 + x8) = True := eq_true (by omega)
@[go_sem] theorem bne9 (a x0 x1 x2 x3 x4 x5 x6 x7 x8 : Nat) : (a = a + 1 + x0 + x1 + x2 + x3 + x4 + x5 + x6 + x7 + x8) = False := eq_false (by omega)
@[go_sem] theorem bnf9 (a x0 x1 x2 x3 x4 x5 x6 x7 x8 : Nat) : (a + 1 + x0 + x1 + x2 + x3 + x4 + x5 + x6 + x7 + x8 = a) = False := eq_false (by omega)
@[go_sem] theorem blt10 (a x0 x1 x2 x3 x4 x5 x6 x7 x8 x9 : Nat) : (a < a + 1 + x0 + x1 + x2 + x3 + x4 + x5 + x6 + x7 + x8 + x9) = True := eq_true (by omega)
@[go_sem] theorem bne10 (a x0 x1 x2 x3 x4 x5 x6 x7 x8 x9 : Nat) : (a = a + 1 + x0 + x1 + x2 + x3 + x4 + x5 + x6 + x7 + x8 + x9) = False := eq_false (by omega)
@[go_sem] theorem bnf10 (a x0 x1 x2 x3 x4 x5 x6 x7 x8 x9 : Nat) : (a + 1 + x0 + x1 + x2 + x3 + x4 + x5 + x6 + x7 + x8 + x9 = a) = False := eq_false (by omega)
@[go_sem] theorem blt11 (a x0 x1 x2 x3 x4 x5 x6 x7 x8 x9 x10 : Nat) : (a < a + 1 + x0 + x1 + x2 + x3 + x4 + x5 + x6 + x7 + x8 + x9 + x10) = True := eq_true (by omega)
@[go_sem] theorem bne11 (a x0 x1 x2 x3 x4 x5 x6 x7 x8 x9 x10 : Nat) : (a = a + 1 + x0 + x1 + x2 + x3 + x4 + x5 + x6 + x7 + x8 + x9 + x10) = False := eq_false (by omega)
@[go_sem] theorem bnf11 (a x0 x1 x2 x3 x4 x5 x6 x7 x8 x9 x10 : Nat) : (a + 1 + x0 + x1 + x2 + x3 + x4 + x5 + x6 + x7 + x8 + x9 + x10 = a) = False := eq_false (by omega)
@[go_sem] theorem blt12 (a x0 x1 x2 x3 x4 x5 x6 x7 x8 x9 x10 x11 : Nat) : (a < a + 1 + x0 + x1 + x2 + x3 + x4 + x5 + x6 + x7 + x8 + x9 + x10 + x11) = True := eq_true (by omega)
@[go_sem] theorem bne12 (a x0 x1 x2 x3 x4 x5 x6 x7 x8 x9 x10 x11 : Nat) : (a = a + 1 + x0 + x1 + x2 + x3 + x4 + x5 + x6 + x7 + x8 + x9 + x10 + x11) = False := eq_false (by omega)
@[go_sem] theorem bnf12 (a x0 x1 x2 x3 x4 x5 x6 x7 x8 x9 x10 x11 : Nat) : (a + 1 + x0 + x1 + x2 + x3 + x4 + x5 + x6 + x7 + x8 + x9 + x10 + x11 = a) = False := eq_false (by omega)
@[go_sem] theorem blt13 (a x0 x1 x2 x3 x4 x5 x6 x7 x8 x9 x10 x11 x12 : Nat) : (a < a + 1 + x0 + x1 + x2 + x3 + x4 + x5 + x6 + x7 + x8 + x9 + x10 + x11 + x12) = True := eq_true (by omega)
@[go_sem] theorem bne13 (a x0 x1 x2 x3 x4 x5 x6 x7 x8 x9 x10 x11 x12 : Nat) : (a = a + 1 + x0 + x1 + x2 + x3 + x4 + x5 + x6 + x7 + x8 + x9 + x10 + x11 + x12) = False := eq_false (by omega)
@[go_sem] theorem bnf13 (a x0 x1 x2 x3 x4 x5 x6 x7 x8 x9 x10 x11 x12 : Nat) : (a + 1 + x0 + x1 + x2 + x3 + x4 + x5 + x6 + x7 + x8 + x9 + x10 + x11 + x12 = a) = False := eq_false (by omega)
@[go_sem] theorem blt14 (a x0 x1 x2 x3 x4 x5 x6 x7 x8 x9 x10 x11 x12 x13 : Nat) : (a < a + 1 + x0 + x1 + x2 + x3 + x4 + x5 + x6 + x7 + x8 + x9 + x10 + x11 + x12 + x13) = True := eq_true (by omega)
@[go_sem] theorem bne14 (a x0 x1 x2 x3 x4 x5 x6 x7 x8 x9 x10 x11 x12 x13 : Nat) : (a = a + 1 + x0 + x1 + x2 + x3 + x4 + x5 + x6 + x7 + x8 + x9 + x10 + x11 + x12 + x13) = False := eq_false (by omega)
@[go_sem] theorem bnf14 (a x0 x1 x2 x3 x4 x5 x6 x7 x8 x9 x10 x11 x12 x13 : Nat) : (a + 1 + x0 + x1 + x2 + x3 + x4 + x5 + x6 + x7 + x8 + x9 + x10 + x11 + x12 + x13 = a) = False := eq_false (by omega)

/-- 'w'' is w with blocks and draws more: what a call that writes nothing of what was there leaves -/
def Mor (w w' : World) : Prop := ∃ bs k, w' = more w bs k
theorem Mor.refl (w : World) : Mor w w := ⟨[], w.drawn, more_zero w⟩
theorem Mor.of_below {w w' : World} (h : Below w.heap.size w w') : Mor w w' := by
  obtain ⟨bs, e⟩ := more_of_below h; exact ⟨bs, _, e⟩
theorem Mor.drewN {w w' : World} {k : Nat} (h : Mor w w') : Mor w (w'.drewN k) := by
  obtain ⟨bs, n, rfl⟩ := h; exact ⟨bs, n + k, more_drewN ..⟩
theorem Mor.drew {w w' : World} (h : Mor w w') : Mor w w'.drew := by
  obtain ⟨bs, n, rfl⟩ := h; exact ⟨bs, n + 1, more_drew ..⟩
theorem Mor.alloc {w w' : World} {o : Obj} (h : Mor w w') : Mor w (w'.alloc o) := by
  obtain ⟨bs, n, rfl⟩ := h; exact ⟨bs ++ [o], n, more_alloc ..⟩
theorem Mor.more {w w' : World} {bs : List Obj} {k : Nat} (h : Mor w w') : Mor w (more w' bs k) := by
  obtain ⟨cs, n, rfl⟩ := h; exact ⟨_, _, more_more ..⟩
theorem Mor.below {w w' : World} (h : Mor w w') : Below w.heap.size w w' := by
  obtain ⟨bs, k, rfl⟩ := h
  exact ⟨rfl, rfl, rfl, by rw [size_more]; omega, fun i hi => block_more w bs k i hi⟩

end Go.Proofs.Ytdpphneebikdpaa

/- Worlds that follow one another; addresses. -/
namespace Go.Proofs.Ytdpphneebikdpaa
open Go.ChangeShapes Go.WideShapes Go.ChangeAt Go.RowKit
set_option linter.unusedVariables false
set_option maxRecDepth 100000

theorem Mor.trans' {w w1 w2 : World} (h : Mor w w1) (h' : Mor w1 w2) : Mor w w2 := by
  obtain ⟨bs, k, rfl⟩ := h'; exact h.more
theorem addb (x : Addr) (i : Nat) : (x.add i).block = x.block := by unfold Addr.add; split <;> rfl
theorem adds (b o i : Nat) : (⟨b, o, none⟩ : Addr).add i = ⟨b, o + i, none⟩ := by
  unfold Addr.add; split
  · subst_vars; rfl
  · rfl

end Go.Proofs.Ytdpphneebikdpaa

/- A block of the heap whose cells are known: 'Bk w g t cs'. -/
namespace Go.Proofs.Ytdpphneebikdpaa
open Go.ChangeShapes Go.WideShapes Go.ChangeAt Go.RowKit
set_option linter.unusedVariables false
set_option maxRecDepth 100000

def Bk (w : World) (g : Nat) (t : TypeId) (cs : Array Value) : Prop := w.heap[g]? = some (.cells cs t (0, 0))
section
variable {w w' : World} {g : Nat} {t : TypeId} {cs : Array Value}
theorem Bk.lt (h : Bk w g t cs) : g < w.heap.size := by
  rcases Nat.lt_or_ge g w.heap.size with hlt | hge
  · exact hlt
  · unfold Bk at h; rw [Array.getElem?_eq_none hge] at h; cases h
theorem Bk.cell (h : Bk w g t cs) (i : Nat) : w.cell? ⟨g, i, none⟩ = cs[i]? := by
  unfold Bk at h
  simp [World.cell?, h]
theorem Bk.frozen (h : Bk w g t cs) (i : Nat) : w.frozen? ⟨g, i, none⟩ = false := by
  unfold Bk at h
  simp [World.frozen?, h]
theorem Bk.new (w : World) (t : TypeId) (cs : Array Value) : Bk (w.alloc (.cells cs t)) w.heap.size t cs := heap_alloc_new w _
theorem Bk.drewN (h : Bk w g t cs) (n : Nat) : Bk (w.drewN n) g t cs := h
theorem Bk.drew (h : Bk w g t cs) : Bk w.drew g t cs := h
theorem Bk.alloc (h : Bk w g t cs) (o : Obj) : Bk (w.alloc o) g t cs := (Below.heap_alloc w o g h.lt).trans h
theorem Bk.more (h : Bk w g t cs) (bs : List Obj) (k : Nat) : Bk (Go.Proofs.Ytdpphneebikdpaa.more w bs k) g t cs := (block_more w bs k g h.lt).trans h
theorem Bk.set_ (h : Bk w g t cs) (i : Nat) (u : Value) : Bk (w.setCell ⟨g, i, none⟩ u) g t (cs.setIfInBounds i u) := by
  unfold Bk at h ⊢
  simp [World.setCell, Array.getElem?_modify, h]
theorem Bk.set_other (h : Bk w g t cs) (g' i : Nat) (u : Value) (hg : g ≠ g') : Bk (w.setCell ⟨g', i, none⟩ u) g t cs := (Below.heap_setCell _ _ _ _ hg).trans h
theorem Bk.below {B : Nat} (h : Bk w g t cs) (hb : Below B w w') (hg : g < B) : Bk w' g t cs := (hb.block g hg).trans h
theorem Bk.mor (h : Bk w g t cs) (hm : Mor w w') : Bk w' g t cs := h.below hm.below h.lt
end

end Go.Proofs.Ytdpphneebikdpaa

/- The plain law of ages: buckets of amounts. No program in sight. -/
namespace Go.Proofs.Ytdpphneebikdpaa
set_option linter.unusedVariables false
set_option maxRecDepth 100000

abbrev Pr := Int × Int
def px (xs : List Pr) (i : Nat) : Int := (xs.getD i (0, 0)).1
def py (xs : List Pr) (i : Nat) : Int := (xs.getD i (0, 0)).2
end Go.Proofs.Ytdpphneebikdpaa

/- The plain law of stable sorting: sorted by a key, and of each key the same in the same order. No program in sight. -/
namespace Go.Proofs.Ytdpphneebikdpaa.Stb
set_option linter.unusedVariables false
set_option maxRecDepth 100000
set_option linter.unusedSectionVars false

section
variable {α : Type} (key : α → Int)
def Srt (xs : List α) : Prop := xs.Pairwise (fun a b => key a ≤ key b)
def Same (xs ys : List α) : Prop := ∀ k, xs.filter (fun x => decide (key x = k)) = ys.filter (fun x => decide (key x = k))
variable {key}
theorem Same.refl (xs : List α) : Same key xs xs := fun _ => rfl
theorem Same.symm {xs ys : List α} (h : Same key xs ys) : Same key ys xs := fun k => (h k).symm
theorem Same.trans {xs ys zs : List α} (h : Same key xs ys) (h' : Same key ys zs) : Same key xs zs := fun k => (h k).trans (h' k)
theorem Same.append {a b c d : List α} (h : Same key a b) (h' : Same key c d) : Same key (a ++ c) (b ++ d) := fun k => by
  rw [List.filter_append, List.filter_append, h k, h' k]
theorem Same.swap {X Y : List α} (h : ∀ x ∈ X, ∀ y ∈ Y, key y < key x) : Same key (X ++ Y) (Y ++ X) := fun k => by
  rw [List.filter_append, List.filter_append]
  by_cases hx : ∃ x ∈ X, key x = k
  · obtain ⟨x, hx, e⟩ := hx
    have : Y.filter (fun y => decide (key y = k)) = [] := List.filter_eq_nil_iff.2 fun y hy => by
      have := h x hx y hy
      simp; omega
    rw [this]; simp
  · have : X.filter (fun y => decide (key y = k)) = [] := List.filter_eq_nil_iff.2 fun y hy => by
      simp; intro e; exact hx ⟨y, hy, e⟩
    rw [this]; simp
theorem Srt.append {X Y : List α} : Srt key (X ++ Y) ↔ Srt key X ∧ Srt key Y ∧ ∀ x ∈ X, ∀ y ∈ Y, key x ≤ key y := List.pairwise_append

/-- the piece from a up to b -/
def seg (xs : List α) (a b : Nat) : List α := (xs.take b).drop a
theorem seg_get (xs : List α) (a b i : Nat) : (seg xs a b)[i]? = if a + i < b then xs[a + i]? else none := by
  unfold seg; rw [List.getElem?_drop, List.getElem?_take]
theorem seg_split (xs : List α) {a m b : Nat} (h1 : a ≤ m) (h2 : m ≤ b) : seg xs a b = seg xs a m ++ seg xs m b := by
  unfold seg
  by_cases hl : m ≤ xs.length
  · have : xs.take b = xs.take m ++ (xs.take b).drop m := by
      conv => lhs; rw [← List.take_append_drop m (xs.take b)]
      rw [List.take_take, Nat.min_eq_left h2]
    conv => lhs; rw [this]
    rw [List.drop_append_of_le_length (by rw [List.length_take]; omega)]
  · rw [List.take_of_length_le (show xs.length ≤ b by omega), List.take_of_length_le (show xs.length ≤ m by omega), List.drop_of_length_le (show xs.length ≤ m by omega), List.append_nil]
theorem seg_nil (xs : List α) {a b : Nat} (h : b ≤ a) : seg xs a b = [] := by
  unfold seg; exact List.drop_of_length_le (by rw [List.length_take]; omega)
variable [Inhabited α]
def ge (xs : List α) (i : Nat) : α := xs.getD i default
theorem ge_some {xs : List α} {i : Nat} (h : i < xs.length) : xs[i]? = some (ge xs i) := by
  unfold ge; rw [List.getD_eq_getElem?_getD, List.getElem?_eq_getElem h]; rfl
/-- xs turned to ys between a and b alone -/
structure Chg (xs ys : List α) (a b : Nat) : Prop where
  len : ys.length = xs.length
  out : ∀ i, (i < a ∨ b ≤ i) → ys[i]? = xs[i]?
theorem Chg.refl (xs : List α) (a b : Nat) : Chg xs xs a b := ⟨rfl, fun _ _ => rfl⟩
theorem Chg.trans {xs ys zs : List α} {a b : Nat} (h : Chg xs ys a b) (h' : Chg ys zs a b) : Chg xs zs a b := ⟨h'.len.trans h.len, fun i hi => (h'.out i hi).trans (h.out i hi)⟩
theorem Chg.wide {xs ys : List α} {a b a' b' : Nat} (h : Chg xs ys a b) (h1 : a' ≤ a) (h2 : b ≤ b') : Chg xs ys a' b' := ⟨h.len, fun i hi => h.out i (by omega)⟩
theorem Chg.seg {xs ys : List α} {a b c d : Nat} (h : Chg xs ys a b) (hcd : d ≤ a ∨ b ≤ c) : seg ys c d = Stb.seg xs c d := by
  apply List.ext_getElem?
  intro i
  rw [seg_get, seg_get]
  split
  · exact h.out _ (by omega)
  · rfl
/-- ys is xs, sorted stably between a and b -/
structure Mg (key : α → Int) (xs ys : List α) (a b : Nat) : Prop where
  chg : Chg xs ys a b
  srt : Srt key (seg ys a b)
  same : Same key (seg ys a b) (seg xs a b)

/-- where the i-th came from when the pieces [s, m) and [m, e) change places -/
def rix (s m e i : Nat) : Nat := if i < s ∨ e ≤ i then i else if i < s + (e - m) then i + (m - s) else i - (e - m)
/-- the pieces [s, m) and [m, e) change places -/
structure Rot (xs ys : List α) (s m e : Nat) : Prop where
  len : ys.length = xs.length
  at_ : ∀ i, ys[i]? = xs[rix s m e i]?
theorem Rot.chg {xs ys : List α} {s m e : Nat} (h : Rot xs ys s m e) : Chg xs ys s e := ⟨h.len, fun i hi => by rw [h.at_, rix, if_pos hi]⟩
theorem Rot.lo {xs ys : List α} {s m e : Nat} (h : Rot xs ys s m e) (h1 : s ≤ m) (h2 : m ≤ e) : seg ys s (s + (e - m)) = seg xs m e := by
  apply List.ext_getElem?
  intro i
  rw [seg_get, seg_get, h.at_]
  by_cases c : s + i < s + (e - m)
  · rw [if_pos c, if_pos (by omega), rix, if_neg (by omega), if_pos c]; congr 1; omega
  · rw [if_neg c, if_neg (by omega)]
theorem Rot.hi {xs ys : List α} {s m e : Nat} (h : Rot xs ys s m e) (h1 : s ≤ m) (h2 : m ≤ e) : seg ys (s + (e - m)) e = seg xs s m := by
  apply List.ext_getElem?
  intro i
  rw [seg_get, seg_get, h.at_]
  by_cases c : s + (e - m) + i < e
  · rw [if_pos c, if_pos (by omega), rix, if_neg (by omega), if_neg (by omega)]; congr 1; omega
  · rw [if_neg c, if_neg (by omega)]
/-- two change places -/
def swp (xs : List α) (i j : Nat) : List α := (xs.set i (ge xs j)).set j (ge xs i)
theorem swp_len (xs : List α) (i j : Nat) : (swp xs i j).length = xs.length := by simp [swp]
theorem swp_get (xs : List α) (i j k : Nat) (hi : i < xs.length) (hj : j < xs.length) : (swp xs i j)[k]? = xs[if k = i then j else if k = j then i else k]? := by
  unfold swp
  rw [List.getElem?_set, List.getElem?_set, List.length_set]
  by_cases h1 : j = k
  · subst h1
    rw [if_pos rfl, if_pos hj]
    by_cases h2 : j = i
    · rw [if_pos h2, ge_some hj, h2]
    · rw [if_neg h2, if_pos rfl, ge_some hi]
  · rw [if_neg h1]
    by_cases h2 : i = k
    · subst h2; rw [if_pos rfl, if_pos hi, if_pos rfl, ge_some hj]
    · rw [if_neg h2, if_neg (Ne.symm h2), if_neg (Ne.symm h1)]
/-- the first one is moved one place up -/
theorem Rot.up {xs ys : List α} {a k : Nat} (h : Rot xs ys a (a + 1) (k + 1)) (h1 : a ≤ k) (hm : k + 1 < xs.length) : Rot xs (swp ys k (k + 1)) a (a + 1) (k + 1 + 1) := by
  have hl := h.len
  refine ⟨by rw [swp_len, hl], fun i => ?_⟩
  rw [swp_get _ _ _ _ (by omega) (by omega), h.at_]
  congr 1
  unfold rix
  repeat' split
  all_goals omega
/-- where the k-th came from when the n from a on and the n from b on change places -/
def six (a b n k : Nat) : Nat := if a ≤ k ∧ k < a + n then k + (b - a) else if b ≤ k ∧ k < b + n then k - (b - a) else k
structure Swr (xs ys : List α) (a b n : Nat) : Prop where
  len : ys.length = xs.length
  at_ : ∀ i, ys[i]? = xs[six a b n i]?
theorem Swr.zero (xs : List α) (a b : Nat) : Swr xs xs a b 0 := ⟨rfl, fun i => by congr 1; unfold six; split <;> (try split) <;> omega⟩
theorem Swr.step {xs ys : List α} {a b n : Nat} (h : Swr xs ys a b n) (h1 : a + n < b) (h2 : b + n < xs.length) : Swr xs (swp ys (a + n) (b + n)) a b (n + 1) := by
  have hl := h.len
  refine ⟨by rw [swp_len, hl], fun i => ?_⟩
  rw [swp_get _ _ _ _ (by omega) (by omega), h.at_]
  congr 1
  unfold six
  repeat' split
  all_goals omega
/-- the rotation that is still to be done, to come to ts -/
structure Todo (cur ts : List α) (s m e : Nat) : Prop where
  len : ts.length = cur.length
  at_ : ∀ i, ts[i]? = cur[rix s m e i]?
theorem Todo.right {cur nxt ts : List α} {m i j : Nat} (h : Todo cur ts (m - i) m (m + j)) (hs : Swr cur nxt (m - i) (m + j - i) i) (hi : i ≤ m) (hij : i < j) : Todo nxt ts (m - i) m (m + (j - i)) := by
  refine ⟨by rw [h.len, hs.len], fun k => ?_⟩
  rw [h.at_, hs.at_]
  congr 1
  unfold rix six
  repeat' split
  all_goals omega
/-- a piece already sorted -/
theorem Mg.id {xs : List α} {a b : Nat} (h : Srt key (seg xs a b)) : Mg key xs xs a b := ⟨Chg.refl _ _ _, h, Same.refl _⟩
/-- one more is set in -/
theorem Mg.step {xs ys zs : List α} {a i : Nat} (h : Mg key xs ys a i) (h' : Mg key ys zs a (i + 1)) (hai : a ≤ i) : Mg key xs zs a (i + 1) := by
  refine ⟨(h.chg.wide (Nat.le_refl _) (by omega)).trans h'.chg, h'.srt, h'.same.trans ?_⟩
  rw [seg_split ys hai (by omega), seg_split xs hai (show i ≤ i + 1 by omega)]
  refine h.same.append ?_
  rw [h.chg.seg (.inr (Nat.le_refl _))]
  exact Same.refl _
theorem Mg.one (xs : List α) (a : Nat) (ha : a ≤ xs.length) : Mg key xs xs a a := Mg.id (by rw [seg_nil _ (Nat.le_refl _)]; exact List.Pairwise.nil)
end

end Go.Proofs.Ytdpphneebikdpaa.Stb

/- The plain laws of stock: lots that go first in, first out, and by the mean. No program in sight. -/
namespace Go.Proofs.Ytdpphneebikdpaa
open Stb
set_option linter.unusedVariables false
set_option maxRecDepth 100000

/-- what is wrong with a move -/
def mvAt (p : Pr) : Int := if p.1 = 0 ∨ p.1 < -1000000 ∨ 1000000 < p.1 ∨ p.2 < 0 ∨ 1000000000000 < p.2 then 1 else if p.1 < 0 ∧ p.2 ≠ 0 then 3 else 0
def mvUp (xs : List Pr) : Nat → Int
  | 0 => 0
  | k + 1 => if mvUp xs k ≠ 0 then mvUp xs k else mvAt (ge xs k)
def mvc (xs : List Pr) : Int := if 40 < xs.length then 2 else mvUp xs xs.length
theorem mvUp_bad {xs : List Pr} {k n : Nat} (h : mvUp xs k = 0) (hb : mvAt (ge xs k) ≠ 0) (hk : k < n) : mvUp xs n = mvAt (ge xs k) := by
  induction n with
  | zero => omega
  | succ n ih =>
    by_cases e : k = n
    · subst e
      show (if mvUp xs k ≠ 0 then mvUp xs k else mvAt (ge xs k)) = _
      rw [if_neg (by simp [h])]
    · show (if mvUp xs n ≠ 0 then mvUp xs n else mvAt (ge xs n)) = _
      rw [ih (by omega), if_pos hb]
theorem mvUp_ok {xs : List Pr} {k : Nat} (h : mvUp xs k = 0) (hb : mvAt (ge xs k) = 0) : mvUp xs (k + 1) = 0 := by
  show (if mvUp xs k ≠ 0 then mvUp xs k else mvAt (ge xs k)) = 0
  rw [if_neg (by simp [h]), hb]
theorem mvUp_at {xs : List Pr} {k n : Nat} (h : mvUp xs n = 0) (hk : k < n) : mvAt (ge xs k) = 0 := by
  induction n with
  | zero => omega
  | succ n ih =>
    have h' : (if mvUp xs n ≠ 0 then mvUp xs n else mvAt (ge xs n)) = 0 := h
    by_cases e : mvUp xs n = 0
    · rw [if_neg (by simp [e])] at h'
      by_cases e2 : k = n
      · subst e2; exact h'
      · exact ih e (by omega)
    · rw [if_pos e] at h'; exact absurd h' e
/-- a move that may be -/
def okM (p : Pr) : Prop := (1 ≤ p.1 ∧ p.1 ≤ 1000000 ∧ 0 ≤ p.2 ∧ p.2 ≤ 1000000000000) ∨ (-1000000 ≤ p.1 ∧ p.1 < 0 ∧ p.2 = 0)
/-- a lot that may be -/
def okLs (p : Pr) : Prop := 1 ≤ p.1 ∧ p.1 ≤ 1000000 ∧ 0 ≤ p.2 ∧ p.2 ≤ 1000000000000
theorem mvAt_ok (p : Pr) : mvAt p = 0 ↔ okM p := by
  unfold mvAt okM
  constructor
  · intro h
    split at h
    · omega
    · split at h <;> omega
  · intro h
    rw [if_neg (by omega), if_neg (by omega)]
theorem mvc_iff (xs : List Pr) : mvc xs = 0 ↔ xs.length ≤ 40 ∧ ∀ i, i < xs.length → okM (ge xs i) := by
  unfold mvc
  split
  · constructor
    · intro h; omega
    · rintro ⟨h, _⟩; omega
  · rename_i h0
    constructor
    · intro h; exact ⟨by omega, fun i hi => (mvAt_ok _).1 (mvUp_at h hi)⟩
    · rintro ⟨_, h⟩
      have : ∀ k, k ≤ xs.length → mvUp xs k = 0 := by
        intro k hk
        induction k with
        | zero => rfl
        | succ k ih => exact mvUp_ok (ih (by omega)) ((mvAt_ok _).2 (h k (by omega)))
      exact this _ (Nat.le_refl _)
def cnt : List Pr → Int
  | [] => 0
  | p :: xs => p.1 + cnt xs
def cst : List Pr → Int
  | [] => 0
  | p :: xs => p.2 + cst xs
theorem cnt_snoc (xs : List Pr) (p : Pr) : cnt (xs ++ [p]) = cnt xs + p.1 := by
  induction xs with
  | nil => show p.1 + 0 = 0 + p.1; omega
  | cons y xs ih => show y.1 + cnt (xs ++ [p]) = y.1 + cnt xs + p.1; omega
theorem cst_snoc (xs : List Pr) (p : Pr) : cst (xs ++ [p]) = cst xs + p.2 := by
  induction xs with
  | nil => show p.2 + 0 = 0 + p.2; omega
  | cons y xs ih => show y.2 + cst (xs ++ [p]) = y.2 + cst xs + p.2; omega
theorem lots_bd {xs : List Pr} (h : ∀ p ∈ xs, okLs p) : (xs.length : Int) ≤ cnt xs ∧ 0 ≤ cst xs ∧ cnt xs ≤ 1000000 * xs.length ∧ cst xs ≤ 1000000000000 * xs.length := by
  induction xs with
  | nil => exact ⟨Int.le_refl _, Int.le_refl _, Int.le_refl _, Int.le_refl _⟩
  | cons p xs ih =>
    have h1 := ih fun q hq => h q (List.mem_cons_of_mem _ hq)
    have h2 := h p List.mem_cons_self
    unfold okLs at h2
    show ((xs.length + 1 : Nat) : Int) ≤ p.1 + cnt xs ∧ 0 ≤ p.2 + cst xs ∧ p.1 + cnt xs ≤ 1000000 * ((xs.length + 1 : Nat) : Int) ∧ p.2 + cst xs ≤ 1000000000000 * ((xs.length + 1 : Nat) : Int)
    omega
/-- pieces that go, those that came first, first: what they cost, and what stays -/
def takeF : List Pr → Int → Option (Int × List Pr)
  | [], n => if 0 < n then none else some (0, [])
  | p :: r, n => if n ≤ 0 then some (0, p :: r) else if p.1 ≤ n then (takeF r (n - p.1)).map (fun q => (q.1 + p.2, q.2)) else some (p.2 * n / p.1, (p.1 - n, p.2 - p.2 * n / p.1) :: r)
theorem part_bd {c k n : Int} (h1 : 1 ≤ c) (h2 : 0 ≤ k) (h3 : 0 ≤ n) (h4 : n ≤ c) : 0 ≤ k * n / c ∧ k * n / c ≤ k := by
  have p1 : 0 ≤ k * n := Int.mul_nonneg h2 h3
  have p2 : k * n ≤ k * c := Int.mul_le_mul_of_nonneg_left h4 h2
  have p3 := Int.ediv_le_ediv (show 0 < c by omega) p2
  rw [Int.mul_ediv_cancel _ (by omega)] at p3
  exact ⟨Int.ediv_nonneg p1 (by omega), p3⟩
theorem takeF_zero (xs : List Pr) (n : Int) (h : n ≤ 0) : takeF xs n = some (0, xs) := by
  cases xs with
  | nil => show (if 0 < n then none else some (0, [])) = _; rw [if_neg (by omega)]
  | cons p r => show (if n ≤ 0 then some (0, p :: r) else _) = _; rw [if_pos h]
theorem takeF_some {xs : List Pr} {n c : Int} {ys : List Pr} (h : ∀ p ∈ xs, okLs p) (hn : 0 ≤ n) (e : takeF xs n = some (c, ys)) :
    (∀ p ∈ ys, okLs p) ∧ 0 ≤ c ∧ c + cst ys = cst xs ∧ cnt ys = cnt xs - n ∧ ys.length ≤ xs.length := by
  induction xs generalizing n c ys with
  | nil =>
    change (if 0 < n then none else some (0, [])) = _ at e
    split at e
    · cases e
    · injection e with e
      injection e with e1 e2
      subst e1 e2
      refine ⟨h, Int.le_refl _, rfl, ?_, Nat.le_refl _⟩
      show (0 : Int) = 0 - n; omega
  | cons p r ih =>
    have h1 := fun q hq => h q (List.mem_cons_of_mem _ hq)
    have h2 := h p List.mem_cons_self
    change (if n ≤ 0 then some (0, p :: r) else if p.1 ≤ n then (takeF r (n - p.1)).map (fun q => (q.1 + p.2, q.2)) else some (p.2 * n / p.1, (p.1 - n, p.2 - p.2 * n / p.1) :: r)) = _ at e
    split at e
    · injection e with e
      injection e with e1 e2
      subst e1 e2
      exact ⟨h, Int.le_refl _, by omega, by omega, Nat.le_refl _⟩
    · split at e
      · cases ht : takeF r (n - p.1) with
        | none => rw [ht] at e; cases e
        | some q =>
          rw [ht] at e
          injection e with e
          injection e with e1 e2
          obtain ⟨a1, a2, a3, a4, a5⟩ := ih (n := n - p.1) (c := q.1) (ys := q.2) h1 (by omega) ht
          subst e1 e2
          unfold okLs at h2
          refine ⟨a1, by omega, ?_, ?_, by simp only [List.length_cons]; omega⟩
          · show q.1 + p.2 + cst q.2 = p.2 + cst r; omega
          · show cnt q.2 = p.1 + cnt r - n; omega
      · injection e with e
        injection e with e1 e2
        subst e1 e2
        unfold okLs at h2
        have hb := part_bd (c := p.1) (k := p.2) (n := n) (by omega) (by omega) hn (by omega)
        refine ⟨fun q hq => ?_, hb.1, ?_, ?_, Nat.le_refl _⟩
        · rcases List.mem_cons.1 hq with rfl | hq
          · unfold okLs; simp only; omega
          · exact h1 q hq
        · show p.2 * n / p.1 + (p.2 - p.2 * n / p.1 + cst r) = p.2 + cst r; omega
        · show p.1 - n + cnt r = p.1 + cnt r - n; omega
/-- the pieces and the costs of the first k moves -/
def cwd (xs : List Pr) : Nat → Int
  | 0 => 0
  | k + 1 => cwd xs k + (ge xs k).1
def kwd (xs : List Pr) : Nat → Int
  | 0 => 0
  | k + 1 => kwd xs k + (ge xs k).2
/-- how many of the first k moves go -/
def negs (xs : List Pr) : Nat → Nat
  | 0 => 0
  | k + 1 => negs xs k + if (ge xs k).1 < 0 then 1 else 0
def fstep (s : List Pr × List Int) (m : Pr) : Option (List Pr × List Int) := if 0 < m.1 then some (s.1 ++ [m], s.2) else (takeF s.1 (-m.1)).map fun q => (q.2, s.2 ++ [q.1])
/-- lots and costs after k moves -/
def fifoS (xs : List Pr) : Nat → Option (List Pr × List Int)
  | 0 => some ([], [])
  | k + 1 => (fifoS xs k).bind fun s => fstep s (ge xs k)
structure FOk (xs : List Pr) (k : Nat) (s : List Pr × List Int) : Prop where
  ok : ∀ p ∈ s.1, okLs p
  cnt : cnt s.1 = cwd xs k
  cst : cst s.1 + s.2.sum = kwd xs k
  nn : ∀ x ∈ s.2, 0 ≤ x
  outs : s.2.length = negs xs k
  len : s.1.length ≤ k
theorem fifoS_ok {xs : List Pr} (h : ∀ i, i < xs.length → okM (ge xs i)) {k : Nat} (hk : k ≤ xs.length) {s : List Pr × List Int} (e : fifoS xs k = some s) : FOk xs k s := by
  induction k generalizing s with
  | zero =>
    injection e with e
    subst e
    exact ⟨fun p hp => (by cases hp), rfl, rfl, fun x hx => (by cases hx), rfl, Nat.le_refl _⟩
  | succ k ih =>
    have hm := h k (by omega)
    change (fifoS xs k).bind (fun s => fstep s (ge xs k)) = some s at e
    cases ht : fifoS xs k with
    | none => rw [ht] at e; cases e
    | some t =>
      rw [ht] at e
      change fstep t (ge xs k) = some s at e
      obtain ⟨i1, i2, i3, i4, i5, i6⟩ := ih (by omega) ht
      unfold fstep at e
      split at e
      · rename_i hp
        injection e with e
        subst e
        unfold okM at hm
        refine ⟨fun p hp' => ?_, ?_, ?_, i4, ?_, ?_⟩
        · rcases List.mem_append.1 hp' with hp' | hp'
          · exact i1 p hp'
          · rw [List.mem_singleton.1 hp']; unfold okLs; omega
        · show Go.Proofs.Ytdpphneebikdpaa.cnt (t.1 ++ [ge xs k]) = cwd xs k + (ge xs k).1; rw [cnt_snoc, i2]
        · show Go.Proofs.Ytdpphneebikdpaa.cst (t.1 ++ [ge xs k]) + t.2.sum = kwd xs k + (ge xs k).2; rw [cst_snoc]; omega
        · show t.2.length = negs xs k + if (ge xs k).1 < 0 then 1 else 0; rw [if_neg (by omega)]; omega
        · show (t.1 ++ [ge xs k]).length ≤ k + 1; rw [List.length_append]; simp; omega
      · rename_i hp
        cases hq : takeF t.1 (-(ge xs k).1) with
        | none => rw [hq] at e; cases e
        | some q =>
          rw [hq] at e
          injection e with e
          subst e
          unfold okM at hm
          obtain ⟨a1, a2, a3, a4, a5⟩ := takeF_some (c := q.1) (ys := q.2) i1 (by omega) hq
          refine ⟨a1, ?_, ?_, fun x hx => ?_, ?_, ?_⟩
          · show Go.Proofs.Ytdpphneebikdpaa.cnt q.2 = cwd xs k + (ge xs k).1; omega
          · show Go.Proofs.Ytdpphneebikdpaa.cst q.2 + (t.2 ++ [q.1]).sum = kwd xs k + (ge xs k).2; rw [List.sum_append]; simp; omega
          · rcases List.mem_append.1 hx with hx | hx
            · exact i4 x hx
            · rw [List.mem_singleton.1 hx]; exact a2
          · show (t.2 ++ [q.1]).length = negs xs k + if (ge xs k).1 < 0 then 1 else 0; rw [if_pos (by omega), List.length_append]; simp; omega
          · show q.2.length ≤ k + 1; omega
end Go.Proofs.Ytdpphneebikdpaa
