/- The world after a call that made blocks and drew orders: 'more w bs k'. Lemmas for the walk. No program in sight. -/
import Derived.BigQuiet
import Derived.Deep.QuietTactic
import Derived.Handy
import Derived.Lib.Hide
import Derived.OpenShut
import Derived.Outline
import Derived.ProofKit
import Derived.RegionTactic
import Derived.WalkKit
namespace Go.Proofs.YtahegjhjonodlaaDoor
open Go.ChangeShapes Go.WideShapes Go.ChangeAt Go.RowKit
set_option maxRecDepth 100000

theorem ret_i {k : IntKind} {a b : Int} (h : a = b) : Ending.returned (.int k a) = .returned (.int k b) := by rw [h]

/- draws outermost -/
@[go_sem, simp] theorem alloc_drewN (w : World) (k : Nat) (o : Obj) : (w.drewN k).alloc o = (w.alloc o).drewN k := rfl
@[go_sem, simp] theorem setCell_drewN (w : World) (k : Nat) (a : Addr) (v : Value) : (w.drewN k).setCell a v = (w.setCell a v).drewN k := rfl

theorem bel_dN {B : Nat} {w w' : World} {k : Nat} (h : Below B w w') : Below B w (w'.drewN k) := ⟨h.os, h.tape, h.output, h.size, h.block⟩

/-- w with the blocks bs behind its own, the count of draws at k -/
def more (w : World) (bs : List Obj) (k : Nat) : World := { w with heap := w.heap ++ bs.toArray, drawn := k }

theorem more_zero (w : World) : w = more w [] w.drawn := by simp [more]
theorem more_alloc (w : World) (bs : List Obj) (k : Nat) (o : Obj) : (more w bs k).alloc o = more w (bs ++ [o]) k := by
  simp [more, World.alloc]
theorem alloc_more (w : World) (o : Obj) : w.alloc o = more w [o] w.drawn := by
  show ({ w with heap := w.heap.push o } : World) = { w with heap := w.heap ++ [o].toArray, drawn := w.drawn }
  simp
theorem more_drewN (w : World) (bs : List Obj) (k n : Nat) : (more w bs k).drewN n = more w bs (k + n) := by
  simp [more, World.drewN]
theorem more_drew (w : World) (bs : List Obj) (k : Nat) : (more w bs k).drew = more w bs (k + 1) := by
  simp [more, World.drew]
@[go_sem, simp] theorem drewN_more (w : World) (bs : List Obj) (k n : Nat) : more (w.drewN n) bs k = more w bs k := by
  simp [more, World.drewN]
@[go_sem, simp] theorem drew_more (w : World) (bs : List Obj) (k : Nat) : more w.drew bs k = more w bs k := by
  show ({ w with heap := w.heap ++ bs.toArray, drawn := k } : World) = { w with heap := w.heap ++ bs.toArray, drawn := k }
  rfl
@[go_sem, simp] theorem more_more (w : World) (bs cs : List Obj) (k n : Nat) : more (more w bs k) cs n = more w (bs ++ cs) n := by
  simp [more]
/-- a world below whose first blocks nothing has turned is such a one -/
theorem more_of_below {w w' : World} (h : Below w.heap.size w w') : ∃ bs, w' = more w bs w'.drawn := by
  refine ⟨w'.heap.toList.drop w.heap.size, ?_⟩
  have e : w'.heap = w.heap ++ (w'.heap.toList.drop w.heap.size).toArray := by
    apply Array.ext_getElem?
    intro i
    rw [Array.getElem?_append]
    by_cases hi : i < w.heap.size
    · rw [if_pos hi, h.block i hi]
    · rw [if_neg hi]
      simp only [List.getElem?_toArray, List.getElem?_drop, Array.getElem?_toList]
      rw [show w.heap.size + (i - w.heap.size) = i by omega]
  obtain ⟨heap, tape, drawn, os, output⟩ := w
  obtain ⟨heap', tape', drawn', os', output'⟩ := w'
  have h1 := h.os
  have h2 := h.tape
  have h3 := h.output
  simp only at h1 h2 h3 e
  subst h1 h2 h3
  simp only [more, World.mk.injEq, and_true]
  exact e
@[go_sem, simp] theorem size_more (w : World) (bs : List Obj) (k : Nat) : (more w bs k).heap.size = w.heap.size + bs.length := by
  simp [more]
theorem block_more (w : World) (bs : List Obj) (k i : Nat) (h : i < w.heap.size) : (more w bs k).heap[i]? = w.heap[i]? := by
  simp [more, Array.getElem?_append_left h]
@[go_sem] theorem cell?_more (w : World) (bs : List Obj) (k n i : Nat) (h : n < w.heap.size) : (more w bs k).cell? ⟨n, i, none⟩ = w.cell? ⟨n, i, none⟩ :=
  World.cell?_of_block (block_more w bs k n h)
@[go_sem] theorem frozen?_more (w : World) (bs : List Obj) (k n i : Nat) (h : n < w.heap.size) : (more w bs k).frozen? ⟨n, i, none⟩ = w.frozen? ⟨n, i, none⟩ :=
  World.frozen?_of_block (block_more w bs k n h)
@[go_sem] theorem setCell_more (w : World) (bs : List Obj) (k n i : Nat) (v : Value) (h : n < w.heap.size) : (more w bs k).setCell ⟨n, i, none⟩ v = more (w.setCell ⟨n, i, none⟩ v) bs k := by
  simp only [more, World.setCell]
  congr 1
  apply Array.ext_getElem?
  intro j
  simp only [Array.getElem?_modify, Array.getElem?_append, Array.size_modify]
  by_cases hj : j = n
  · subst hj; simp [h]
  · have : ¬ n = j := fun e => hj e.symm
    simp [this]

/- block numbers: a block lies ahead of what was made behind it -/
@[go_sem] theorem blt0 (a : Nat) : (a < a + 1) = True := eq_true (by omega)
@[go_sem] theorem bne0 (a : Nat) : (a = a + 1) = False := eq_false (by omega)
@[go_sem] theorem bnf0 (a : Nat) : (a + 1 = a) = False := eq_false (by omega)
@[go_sem] theorem blt1 (a x0 : Nat) : (a < a + 1 + x0) = True := eq_true (by omega)
@[go_sem] theorem bne1 (a x0 : Nat) : (a = a + 1 + x0) = False := eq_false (by omega)
@[go_sem] theorem bnf1 (a x0 : Nat) : (a + 1 + x0 = a) = False := eq_false (by omega)
@[go_sem] theorem blt2 (a x0 x1 : Nat) : (a < a + 1 + x0 + x1) = True := eq_true (by omega)
@[go_sem] theorem bne2 (a x0 x1 : Nat) : (a = a + 1 + x0 + x1) = False := eq_false (by omega)
@[go_sem] theorem bnf2 (a x0 x1 : Nat) : (a + 1 + x0 + x1 = a) = False := eq_false (by omega)
@[go_sem] theorem blt3 (a x0 x1 x2 : Nat) : (a < a + 1 + x0 + x1 + x2) = True := eq_true (by omega)
@[go_sem] theorem bne3 (a x0 x1 x2 : Nat) : (a = a + 1 + x0 + x1 + x2) = False := eq_false (by omega)
@[go_sem] theorem bnf3 (a x0 x1 x2 : Nat) : (a + 1 + x0 + x1 + x2 = a) = False := eq_false (by omega)
@[go_sem] theorem blt4 (a x0 x1 x2 x3 : Nat) : (a < a + 1 + x0 + x1 + x2 + x3) = True := eq_true (by omega)
@[go_sem] theorem bne4 (a x0 x1 x2 x3 : Nat) : (a = a + 1 + x0 + x1 + x2 + x3) = False := eq_false (by omega)
@[go_sem] theorem bnf4 (a x0 x1 x2 x3 : Nat) : (a + 1 + x0 + x1 + x2 + x3 = a) = False := eq_false (by omega)
@[go_sem] theorem blt5 (a x0 x1 x2 x3 x4 : Nat) : (a < a + 1 + x0 + x1 + x2 + x3 + x4) = True := eq_true (by omega)
@[go_sem] theorem bne5 (a x0 x1 x2 x3 x4 : Nat) : (a = a + 1 + x0 + x1 + x2 + x3 + x4) = False := eq_false (by omega)
@[go_sem] theorem bnf5 (a x0 x1 x2 x3 x4 : Nat) : (a + 1 + x0 + x1 + x2 + x3 + x4 = a) = False := eq_false (by omega)
@[go_sem] theorem blt6 (a x0 x1 x2 x3 x4 x5 : Nat) : (a < a + 1 + x0 + x1 + x2 + x3 + x4 + x5) = True := eq_true (by omega)
@[go_sem] theorem bne6 (a x0 x1 x2 x3 x4 x5 : Nat) : (a = a + 1 + x0 + x1 + x2 + x3 + x4 + x5) = False := eq_false (by omega)
@[go_sem] theorem bnf6 (a x0 x1 x2 x3 x4 x5 : Nat) : (a + 1 + x0 + x1 + x2 + x3 + x4 + x5 = a) = False := eq_false (by omega)
@[go_sem] theorem blt7 (a x0 x1 x2 x3 x4 x5 x6 : Nat) : (a < a + 1 + x0 + x1 + x2 + x3 + x4 + x5 + x6) = True := eq_true (by omega)
@[go_sem] theorem bne7 (a x0 x1 x2 x3 x4 x5 x6 : Nat) : (a = a + 1 + x0 + x1 + x2 + x3 + x4 + x5 + x6) = False := eq_false (by omega)
@[go_sem] theorem bnf7 (a x0 x1 x2 x3 x4 x5 x6 : Nat) : (a + 1 + x0 + x1 + x2 + x3 + x4 + x5 + x6 = a) = False := eq_false (by omega)
@[go_sem] theorem blt8 (a x0 x1 x2 x3 x4 x5 x6 x7 : Nat) : (a < a + 1 + x0 + x1 + x2 + x3 + x4 + x5 + x6 + x7) = True := eq_true (by omega)
@[go_sem] theorem bne8 (a x0 x1 x2 x3 x4 x5 x6 x7 : Nat) : (a = a + 1 + x0 + x1 + x2 + x3 + x4 + x5 + x6 + x7) = False := eq_false (by omega)
@[go_sem] theorem bnf8 (a x0 x1 x2 x3 x4 x5 x6 x7 : Nat) : (a + 1 + x0 + x1 + x2 + x3 + x4 + x5 + x6 + x7 = a) = False := eq_false (by omega)
@[go_sem] theorem blt9 (a x0 x1 x2 x3 x4 x5 x6 x7 x8 : Nat) : (a < a + 1 + x0 + x1 + x2 + x3 + x4 + x5 + x6 + x7 + x8) = True := eq_true (by omega)
@[go_sem] theorem bne9 (a x0 x1 x2 x3 x4 x5 x6 x7 x8 : Nat) : (a = a + 1 + x0 + x1 + x2 + x3 + x4 + x5 + x6 + x7 + x8) = False := eq_false (by omega)
@[go_sem] theorem bnf9 (a x0 x1 x2 x3 x4 x5 x6 x7 x8 : Nat) : (a + 1 + x0 + x1 + x2 + x3 + x4 + x5 + x6 + x7 + x8 = a) = False := eq_false (by omega)
@[go_sem] theorem blt10 (a x0 x1 x2 x3 x4 x5 x6 x7 x8 x9 : Nat) : (a < a + 1 + x0 + x1 + x2 + x3 + x4 + x5 + x6 + x7 + x8 + x9) = True := eq_true (by omega)
@[go_sem] theorem bne10 (a x0 x1 x2 x3 x4 x5 x6 x7 x8 x9 : Nat) : (a = a + 1 + x0 + x1 + x2 + x3 + x4 + x5 + x6 + x7 + x8 + x9) = False := eq_false (by omega)
@[go_sem] theorem bnf10 (a x0 x1 x2 x3 x4 x5 x6 x7 x8 x9 : Nat) : (a + 1 + x0 + x1 + x2 + x3 + x4 + x5 + x6 + x7 + x8 + x9 = a) = False := eq_false (by omega)
@[go_sem] theorem blt11 (a x0 x1 x2 x3 x4 x5 x6 x7 x8 x9 x10 : Nat) : (a < a + 1 + x0 + x1 + x2 + x3 + x4 + x5 + x6 + x7 + x8 + x9 + x10) = True := eq_true (by omega)
@[go_sem] theorem bne11 (a x0 x1 x2 x3 x4 x5 x6 x7 x8 x9 x10 : Nat) : (a = a + 1 + x0 + x1 + x2 + x3 + x4 + x5 + x6 + x7 + x8 + x9 + x10) = False := eq_false (by omega)
@[go_sem] theorem bnf11 (a x0 x1 x2 x3 x4 x5 x6 x7 x8 x9 x10 : Nat) : (a + 1 + x0 + x1 + x2 + x3 + x4 + x5 + x6 + x7 + x8 + x9 + x10 = a) = False := eq_false (by omega)
@[go_sem] theorem blt12 (a x0 x1 x2 x3 x4 x5 x6 x7 x8 x9 x10 x11 : Nat) : (a < a + 1 + x0 + x1 + x2 + x3 + x4 + x5 + x6 + x7 + x8 + x9 + x10 + x11) = True := eq_true (by omega)
@[go_sem] theorem bne12 (a x0 x1 x2 x3 x4 x5 x6 x7 x8 x9 x10 x11 : Nat) : (a = a + 1 + x0 + x1 + x2 + x3 + x4 + x5 + x6 + x7 + x8 + x9 + x10 + x11) = False := eq_false (by omega)
@[go_sem] theorem bnf12 (a x0 x1 x2 x3 x4 x5 x6 x7 x8 x9 x10 x11 : Nat) : (a + 1 + x0 + x1 + x2 + x3 + x4 + x5 + x6 + x7 + x8 + x9 + x10 + x11 = a) = False := eq_false (by omega)
@[go_sem] theorem blt13 (a x0 x1 x2 x3 x4 x5 x6 x7 x8 x9 x10 x11 x12 : Nat) : (a < a + 1 + x0 + x1 + x2 + x3 + x4 + x5 + x6 + x7 + x8 + x9 + x10 + x11 + x12) = True := eq_true (by omega)
@[go_sem] theorem bne13 (a x0 x1 x2 x3 x4 x5 x6 x7 x8 x9 x10 x11 x12 : Nat) : (a = a + 1 + x0 + x1 + x2 + x3 + x4 + x5 + x6 + x7 + x8 + x9 + x10 + x11 + x12) = False := eq_false (by omega)
@[go_sem] theorem bnf13 (a x0 x1 x2 x3 x4 x5 x6 x7 x8 x9 x10 x11 x12 : Nat) : (a + 1 + x0 + x1 + x2 + x3 + x4 + x5 + x6 + x7 + x8 + x9 + x10 + x11 + x12 = a) = False := eq_false (by omega)
@[go_sem] theorem blt14 (a x0 x1 x2 x3 x4 x5 x6 x7 x8 x9 x10 x11 x12 x13 : Nat) : (a < a + 1 + x0 + x1 + x2 + x3 + x4 + x5 + x6 + x7 + x8 + x9 + x10 + x11 + x12 + x13) = True := eq_true (by omega)
@[go_sem] theorem bne14 (a x0 x1 x2 x3 x4 x5 x6 x7 x8 x9 x10 x11 x12 x13 : Nat) : (a = a + 1 + x0 + x1 + x2 + x3 + x4 + x5 + x6 + x7 + x8 + x9 + x10 + x11 + x12 + x13) = False := eq_false (by omega)
@[go_sem] theorem bnf14 (a x0 x1 x2 x3 x4 x5 x6 x7 x8 x9 x10 x11 x12 x13 : Nat) : (a + 1 + x0 + x1 + x2 + x3 + x4 + x5 + x6 + x7 + x8 + x9 + x10 + x11 + x12 + x13 = a) = False := eq_false (by omega)

/-- 'w'' is w with blocks and draws more: what a call that writes nothing of what was there leaves -/
def Mor (w w' : World) : Prop := ∃ bs k, w' = more w bs k
theorem Mor.refl (w : World) : Mor w w := ⟨[], w.drawn, more_zero w⟩
theorem Mor.of_below {w w' : World} (h : Below w.heap.size w w') : Mor w w' := by
  obtain ⟨bs, e⟩ := more_of_below h; exact ⟨bs, _, e⟩
theorem Mor.drewN {w w' : World} {k : Nat} (h : Mor w w') : Mor w (w'.drewN k) := by
  obtain ⟨bs, n, rfl⟩ := h; exact ⟨bs, n + k, more_drewN ..⟩
theorem Mor.drew {w w' : World} (h : Mor w w') : Mor w w'.drew := by
  obtain ⟨bs, n, rfl⟩ := h; exact ⟨bs, n + 1, more_drew ..⟩
theorem Mor.alloc {w w' : World} {o : Obj} (h : Mor w w') : Mor w (w'.alloc o) := by
  obtain ⟨bs, n, rfl⟩ := h; exact ⟨bs ++ [o], n, more_alloc ..⟩
theorem Mor.more {w w' : World} {bs : List Obj} {k : Nat} (h : Mor w w') : Mor w (more w' bs k) := by
  obtain ⟨cs, n, rfl⟩ := h; exact ⟨_, _, more_more ..⟩
theorem Mor.below {w w' : World} (h : Mor w w') : Below w.heap.size w w' := by
  obtain ⟨bs, k, rfl⟩ := h
  exact ⟨rfl, rfl, rfl, by rw [size_more]; omega, fun i hi => block_more w bs k i hi⟩

end Go.Proofs.YtahegjhjonodlaaDoor

/- The plain law of ages: buckets of amounts. No program in sight. -/
namespace Go.Proofs.YtahegjhjonodlaaDoor
set_option linter.unusedVariables false
set_option maxRecDepth 100000

abbrev Pr := Int × Int
def px (xs : List Pr) (i : Nat) : Int := (xs.getD i (0, 0)).1
def py (xs : List Pr) (i : Nat) : Int := (xs.getD i (0, 0)).2
/-- entry i -/
def ei (xs : List Int) (i : Nat) : Int := xs.getD i 0
/-- how many of the bounds are below t: where t stands among them -/
def pos (bs : List Int) (t : Int) : Nat := (bs.filter (fun b => decide (b < t))).length
theorem pos_le (bs : List Int) (t : Int) : pos bs t ≤ bs.length := List.length_filter_le _ _
/-- bounds that rise -/
def Rise (bs : List Int) : Prop := ∀ i j, i < j → j < bs.length → ei bs i < ei bs j
/-- of rising bounds: all ahead of the place are below t, none behind it is -/
theorem pos_spec {bs : List Int} {t : Int} {p : Nat} (hp : p ≤ bs.length) (h1 : ∀ i, i < p → ei bs i < t) (h2 : ∀ i, p ≤ i → i < bs.length → t ≤ ei bs i) : pos bs t = p := by
  unfold pos
  have e : bs.filter (fun b => decide (b < t)) = bs.take p := by
    conv => lhs; rw [← List.take_append_drop p bs]
    rw [List.filter_append]
    have a : (bs.take p).filter (fun b => decide (b < t)) = bs.take p := by
      refine List.filter_eq_self.2 fun b hb => ?_
      obtain ⟨i, hi, rfl⟩ := List.getElem_of_mem hb
      rw [List.length_take] at hi
      have := h1 i (by omega)
      unfold ei at this
      rw [List.getD_eq_getElem?_getD, List.getElem?_eq_getElem (by omega)] at this
      simpa using this
    have b : (bs.drop p).filter (fun b => decide (b < t)) = [] := by
      refine List.filter_eq_nil_iff.2 fun b hb => ?_
      obtain ⟨i, hi, rfl⟩ := List.getElem_of_mem hb
      rw [List.length_drop] at hi
      have := h2 (p + i) (by omega) (by omega)
      unfold ei at this
      rw [List.getD_eq_getElem?_getD, List.getElem?_eq_getElem (by omega)] at this
      simpa using this
    rw [a, b, List.append_nil]
  rw [e, List.length_take]; omega
/-- the age of the item i -/
def aged (xs : List Pr) (t : Int) (i : Nat) : Int := if t - px xs i < 0 then 0 else t - px xs i
/-- the buckets after j items -/
def ag (xs : List Pr) (t : Int) (bs : List Int) : Nat → List Int
  | 0 => List.replicate (bs.length + 1) 0
  | j + 1 => (ag xs t bs j).set (pos bs (aged xs t j)) (ei (ag xs t bs j) (pos bs (aged xs t j)) + py xs j)
theorem ag_len (xs : List Pr) (t : Int) (bs : List Int) (j : Nat) : (ag xs t bs j).length = bs.length + 1 := by
  induction j with
  | zero => simp [ag]
  | succ j ih => simp [ag, ih]
/-- what lies in the first k buckets -/
def pre (xs : List Pr) (t : Int) (bs : List Int) (k : Nat) : Nat → Int
  | 0 => 0
  | j + 1 => pre xs t bs k j + if pos bs (aged xs t j) < k then py xs j else 0
/-- what is wrong with items -/
def itAt (xs : List Pr) (i : Nat) : Bool := decide (0 ≤ px xs i) && decide (px xs i ≤ 292193) && decide (1 ≤ py xs i) && decide (py xs i ≤ 1000000000000)
def itOk (xs : List Pr) (n : Nat) : Bool := (List.range n).all (itAt xs)
def itc (xs : List Pr) : Int := if 40 < xs.length then 2 else if itOk xs xs.length = true then 0 else 1

theorem itOk_at {xs : List Pr} {n k : Nat} (h : itOk xs n = true) (hk : k < n) : 0 ≤ px xs k ∧ px xs k ≤ 292193 ∧ 1 ≤ py xs k ∧ py xs k ≤ 1000000000000 := by
  unfold itOk at h
  rw [List.all_eq_true] at h
  have := h k (List.mem_range.2 hk)
  unfold itAt at this
  simp at this
  omega
theorem itOk_bad {xs : List Pr} {k n : Nat} (h : itAt xs k = false) (hk : k < n) : itOk xs n = false := by
  unfold itOk
  rw [List.all_eq_false]
  exact ⟨k, List.mem_range.2 hk, by simp [h]⟩
theorem itOk_succ (xs : List Pr) (k : Nat) : itOk xs (k + 1) = (itOk xs k && itAt xs k) := by
  unfold itOk; rw [List.range_succ, List.all_append]; simp
/-- what is wrong with the bound i -/
def bdAt (bs : List Int) (i : Nat) : Int := if ei bs i < 0 ∨ 292193 < ei bs i then 1 else if 0 < i ∧ ei bs i ≤ ei bs (i - 1) then 3 else 0
def bdUp (bs : List Int) : Nat → Int
  | 0 => 0
  | k + 1 => if bdUp bs k ≠ 0 then bdUp bs k else bdAt bs k
theorem bdUp_bad {bs : List Int} {k n : Nat} (h : bdUp bs k = 0) (hb : bdAt bs k ≠ 0) (hk : k < n) : bdUp bs n = bdAt bs k := by
  induction n with
  | zero => omega
  | succ n ih =>
    by_cases e : k = n
    · subst e
      show (if bdUp bs k ≠ 0 then bdUp bs k else bdAt bs k) = _
      rw [if_neg (by simp [h])]
    · show (if bdUp bs n ≠ 0 then bdUp bs n else bdAt bs n) = _
      rw [ih (by omega), if_pos hb]
theorem bdUp_ok {bs : List Int} {k : Nat} (h : bdUp bs k = 0) (hb : bdAt bs k = 0) : bdUp bs (k + 1) = 0 := by
  show (if bdUp bs k ≠ 0 then bdUp bs k else bdAt bs k) = 0
  rw [if_neg (by simp [h]), hb]
theorem bdUp_at {bs : List Int} {k n : Nat} (h : bdUp bs n = 0) (hk : k < n) : bdAt bs k = 0 := by
  induction n with
  | zero => omega
  | succ n ih =>
    have h' : (if bdUp bs n ≠ 0 then bdUp bs n else bdAt bs n) = 0 := h
    by_cases e : bdUp bs n = 0
    · rw [if_neg (by simp [e])] at h'
      by_cases e2 : k = n
      · subst e2; exact h'
      · exact ih e (by omega)
    · rw [if_pos e] at h'; exact absurd h' e
theorem rise_of {bs : List Int} (h : bdUp bs bs.length = 0) : Rise bs := by
  have step : ∀ i, i + 1 < bs.length → ei bs i < ei bs (i + 1) := fun i hi => by
    have := bdUp_at h hi
    unfold bdAt at this
    split at this
    · omega
    · split at this
      · omega
      · rename_i h2; simp at h2; omega
  intro i j hij hj
  induction j with
  | zero => omega
  | succ j ih =>
    by_cases e : i = j
    · subst e; exact step i hj
    · have := ih (by omega) (by omega); have := step j hj; omega
/-- what age.Ages says -/
def agec (xs : List Pr) (t : Int) (bs : List Int) : Int :=
  if itc xs ≠ 0 then itc xs else if t < 0 ∨ 292193 < t then 1 else if 40 < bs.length then 2 else bdUp bs bs.length

end Go.Proofs.YtahegjhjonodlaaDoor

/- The plain law of stable sorting: sorted by a key, and of each key the same in the same order. No program in sight. -/
namespace Go.Proofs.YtahegjhjonodlaaDoor.Stb
set_option linter.unusedVariables false
set_option maxRecDepth 100000
set_option linter.unusedSectionVars false

section
variable {α : Type} (key : α → Int)
def Srt (xs : List α) : Prop := xs.Pairwise (fun a b => key a ≤ key b)
def Same (xs ys : List α) : Prop := ∀ k, xs.filter (fun x => decide (key x = k)) = ys.filter (fun x => decide (key x = k))
variable {key}
theorem Same.refl (xs : List α) : Same key xs xs := fun _ => rfl
theorem Same.symm {xs ys : List α} (h : Same key xs ys) : Same key ys xs := fun k => (h k).symm
theorem Same.trans {xs ys zs : List α} (h : Same key xs ys) (h' : Same key ys zs) : Same key xs zs := fun k => (h k).trans (h' k)
theorem Same.append {a b c d : List α} (h : Same key a b) (h' : Same key c d) : Same key (a ++ c) (b ++ d) := fun k => by
  rw [List.filter_append, List.filter_append, h k, h' k]
theorem Same.mem {xs ys : List α} (h : Same key xs ys) {x : α} (hx : x ∈ xs) : x ∈ ys := by
  have h1 : x ∈ xs.filter (fun y => decide (key y = key x)) := List.mem_filter.2 ⟨hx, by simp⟩
  rw [h (key x)] at h1
  exact (List.mem_filter.1 h1).1
theorem Same.swap {X Y : List α} (h : ∀ x ∈ X, ∀ y ∈ Y, key y < key x) : Same key (X ++ Y) (Y ++ X) := fun k => by
  rw [List.filter_append, List.filter_append]
  by_cases hx : ∃ x ∈ X, key x = k
  · obtain ⟨x, hx, e⟩ := hx
    have : Y.filter (fun y => decide (key y = k)) = [] := List.filter_eq_nil_iff.2 fun y hy => by
      have := h x hx y hy
      simp; omega
    rw [this]; simp
  · have : X.filter (fun y => decide (key y = k)) = [] := List.filter_eq_nil_iff.2 fun y hy => by
      simp; intro e; exact hx ⟨y, hy, e⟩
    rw [this]; simp
theorem Same.cons_inv {x : α} {xs ys : List α} (h : Same key (x :: xs) (x :: ys)) : Same key xs ys := fun k => by
  have := h k
  by_cases e : key x = k
  · rw [List.filter_cons_of_pos (by simpa using e), List.filter_cons_of_pos (by simpa using e)] at this
    injection this
  · rw [List.filter_cons_of_neg (by simpa using e), List.filter_cons_of_neg (by simpa using e)] at this
    exact this
theorem Srt.unique {xs ys : List α} (hx : Srt key xs) (hy : Srt key ys) (h : Same key xs ys) : xs = ys := by
  induction xs generalizing ys with
  | nil =>
    cases ys with
    | nil => rfl
    | cons y ys => exact absurd (h.symm.mem (List.mem_cons_self)) (by simp)
  | cons x xs ih =>
    cases ys with
    | nil => exact absurd (h.mem (List.mem_cons_self)) (by simp)
    | cons y ys =>
      unfold Srt at hx hy
      rw [List.pairwise_cons] at hx hy
      have m1 : x ∈ y :: ys := h.mem List.mem_cons_self
      have m2 : y ∈ x :: xs := h.symm.mem List.mem_cons_self
      have k1 : key y ≤ key x := by
        rcases List.mem_cons.1 m1 with e | e
        · rw [e]; exact Int.le_refl _
        · exact hy.1 x e
      have k2 : key x ≤ key y := by
        rcases List.mem_cons.1 m2 with e | e
        · rw [e]; exact Int.le_refl _
        · exact hx.1 y e
      have h0 := h (key x)
      rw [List.filter_cons_of_pos (by simp), List.filter_cons_of_pos (by simp; omega)] at h0
      injection h0 with e _
      subst e
      rw [ih hx.2 hy.2 h.cons_inv]
theorem Srt.append {X Y : List α} : Srt key (X ++ Y) ↔ Srt key X ∧ Srt key Y ∧ ∀ x ∈ X, ∀ y ∈ Y, key x ≤ key y := List.pairwise_append

/-- the piece from a up to b -/
def seg (xs : List α) (a b : Nat) : List α := (xs.take b).drop a
theorem seg_len (xs : List α) (a b : Nat) (h : b ≤ xs.length) : (seg xs a b).length = b - a := by
  unfold seg; rw [List.length_drop, List.length_take]; omega
theorem seg_get (xs : List α) (a b i : Nat) : (seg xs a b)[i]? = if a + i < b then xs[a + i]? else none := by
  unfold seg; rw [List.getElem?_drop, List.getElem?_take]
theorem seg_split (xs : List α) {a m b : Nat} (h1 : a ≤ m) (h2 : m ≤ b) : seg xs a b = seg xs a m ++ seg xs m b := by
  unfold seg
  by_cases hl : m ≤ xs.length
  · have : xs.take b = xs.take m ++ (xs.take b).drop m := by
      conv => lhs; rw [← List.take_append_drop m (xs.take b)]
      rw [List.take_take, Nat.min_eq_left h2]
    conv => lhs; rw [this]
    rw [List.drop_append_of_le_length (by rw [List.length_take]; omega)]
  · rw [List.take_of_length_le (show xs.length ≤ b by omega), List.take_of_length_le (show xs.length ≤ m by omega), List.drop_of_length_le (show xs.length ≤ m by omega), List.append_nil]
theorem seg_nil (xs : List α) {a b : Nat} (h : b ≤ a) : seg xs a b = [] := by
  unfold seg; exact List.drop_of_length_le (by rw [List.length_take]; omega)
theorem seg_all (xs : List α) {n : Nat} (h : xs.length = n) : seg xs 0 n = xs := by
  unfold seg; rw [List.drop_zero, List.take_of_length_le (by omega)]
variable [Inhabited α]
def ge (xs : List α) (i : Nat) : α := xs.getD i default
theorem ge_some {xs : List α} {i : Nat} (h : i < xs.length) : xs[i]? = some (ge xs i) := by
  unfold ge; rw [List.getD_eq_getElem?_getD, List.getElem?_eq_getElem h]; rfl
theorem mem_seg {xs : List α} {a b : Nat} (hb : b ≤ xs.length) {x : α} : x ∈ seg xs a b ↔ ∃ i, a ≤ i ∧ i < b ∧ ge xs i = x := by
  rw [List.mem_iff_getElem?]
  constructor
  · rintro ⟨i, h⟩
    rw [seg_get] at h
    split at h
    · rw [ge_some (by omega)] at h
      injection h with h
      exact ⟨a + i, by omega, by assumption, h⟩
    · cases h
  · rintro ⟨i, h1, h2, h3⟩
    refine ⟨i - a, ?_⟩
    rw [seg_get, show a + (i - a) = i by omega, if_pos h2, ge_some (by omega), h3]
theorem srt_seg {xs : List α} {a b : Nat} (hb : b ≤ xs.length) : Srt key (seg xs a b) ↔ ∀ i j, a ≤ i → i < j → j < b → key (ge xs i) ≤ key (ge xs j) := by
  unfold Srt
  rw [List.pairwise_iff_getElem]
  constructor
  · intro h i j h1 h2 h3
    have l := seg_len xs a b hb
    have := h (i - a) (j - a) (by omega) (by omega) (by omega)
    have e1 : (seg xs a b)[i - a]? = some (ge xs i) := by rw [seg_get, show a + (i - a) = i by omega, if_pos (by omega), ge_some (by omega)]
    have e2 : (seg xs a b)[j - a]? = some (ge xs j) := by rw [seg_get, show a + (j - a) = j by omega, if_pos (by omega), ge_some (by omega)]
    rw [List.getElem?_eq_getElem (by omega)] at e1 e2
    injection e1 with e1
    injection e2 with e2
    rw [e1, e2] at this; exact this
  · intro h i j hi hj hij
    have l := seg_len xs a b hb
    have e1 : (seg xs a b)[i]? = some (ge xs (a + i)) := by rw [seg_get, if_pos (by omega), ge_some (by omega)]
    have e2 : (seg xs a b)[j]? = some (ge xs (a + j)) := by rw [seg_get, if_pos (by omega), ge_some (by omega)]
    rw [List.getElem?_eq_getElem (by omega)] at e1 e2
    injection e1 with e1
    injection e2 with e2
    rw [e1, e2]; exact h _ _ (by omega) (by omega) (by omega)
/-- xs turned to ys between a and b alone -/
structure Chg (xs ys : List α) (a b : Nat) : Prop where
  len : ys.length = xs.length
  out : ∀ i, (i < a ∨ b ≤ i) → ys[i]? = xs[i]?
theorem Chg.refl (xs : List α) (a b : Nat) : Chg xs xs a b := ⟨rfl, fun _ _ => rfl⟩
theorem Chg.trans {xs ys zs : List α} {a b : Nat} (h : Chg xs ys a b) (h' : Chg ys zs a b) : Chg xs zs a b := ⟨h'.len.trans h.len, fun i hi => (h'.out i hi).trans (h.out i hi)⟩
theorem Chg.wide {xs ys : List α} {a b a' b' : Nat} (h : Chg xs ys a b) (h1 : a' ≤ a) (h2 : b ≤ b') : Chg xs ys a' b' := ⟨h.len, fun i hi => h.out i (by omega)⟩
theorem Chg.seg {xs ys : List α} {a b c d : Nat} (h : Chg xs ys a b) (hcd : d ≤ a ∨ b ≤ c) : seg ys c d = Stb.seg xs c d := by
  apply List.ext_getElem?
  intro i
  rw [seg_get, seg_get]
  split
  · exact h.out _ (by omega)
  · rfl
/-- ys is xs, sorted stably between a and b -/
structure Mg (key : α → Int) (xs ys : List α) (a b : Nat) : Prop where
  chg : Chg xs ys a b
  srt : Srt key (seg ys a b)
  same : Same key (seg ys a b) (seg xs a b)

/-- where the i-th came from when the pieces [s, m) and [m, e) change places -/
def rix (s m e i : Nat) : Nat := if i < s ∨ e ≤ i then i else if i < s + (e - m) then i + (m - s) else i - (e - m)
/-- the pieces [s, m) and [m, e) change places -/
structure Rot (xs ys : List α) (s m e : Nat) : Prop where
  len : ys.length = xs.length
  at_ : ∀ i, ys[i]? = xs[rix s m e i]?
theorem Rot.chg {xs ys : List α} {s m e : Nat} (h : Rot xs ys s m e) : Chg xs ys s e := ⟨h.len, fun i hi => by rw [h.at_, rix, if_pos hi]⟩
theorem Rot.lo {xs ys : List α} {s m e : Nat} (h : Rot xs ys s m e) (h1 : s ≤ m) (h2 : m ≤ e) : seg ys s (s + (e - m)) = seg xs m e := by
  apply List.ext_getElem?
  intro i
  rw [seg_get, seg_get, h.at_]
  by_cases c : s + i < s + (e - m)
  · rw [if_pos c, if_pos (by omega), rix, if_neg (by omega), if_pos c]; congr 1; omega
  · rw [if_neg c, if_neg (by omega)]
theorem Rot.hi {xs ys : List α} {s m e : Nat} (h : Rot xs ys s m e) (h1 : s ≤ m) (h2 : m ≤ e) : seg ys (s + (e - m)) e = seg xs s m := by
  apply List.ext_getElem?
  intro i
  rw [seg_get, seg_get, h.at_]
  by_cases c : s + (e - m) + i < e
  · rw [if_pos c, if_pos (by omega), rix, if_neg (by omega), if_neg (by omega)]; congr 1; omega
  · rw [if_neg c, if_neg (by omega)]
theorem Rot.none_l (xs : List α) (s e : Nat) (h : s ≤ e) : Rot xs xs s s e := ⟨rfl, fun i => by congr 1; unfold rix; split <;> (try split) <;> omega⟩
theorem Rot.none_r (xs : List α) (s e : Nat) (h : s ≤ e) : Rot xs xs s e e := ⟨rfl, fun i => by congr 1; unfold rix; split <;> (try split) <;> omega⟩
/-- two change places -/
def swp (xs : List α) (i j : Nat) : List α := (xs.set i (ge xs j)).set j (ge xs i)
theorem swp_len (xs : List α) (i j : Nat) : (swp xs i j).length = xs.length := by simp [swp]
theorem swp_get (xs : List α) (i j k : Nat) (hi : i < xs.length) (hj : j < xs.length) : (swp xs i j)[k]? = xs[if k = i then j else if k = j then i else k]? := by
  unfold swp
  rw [List.getElem?_set, List.getElem?_set, List.length_set]
  by_cases h1 : j = k
  · subst h1
    rw [if_pos rfl, if_pos hj]
    by_cases h2 : j = i
    · rw [if_pos h2, ge_some hj, h2]
    · rw [if_neg h2, if_pos rfl, ge_some hi]
  · rw [if_neg h1]
    by_cases h2 : i = k
    · subst h2; rw [if_pos rfl, if_pos hi, if_pos rfl, ge_some hj]
    · rw [if_neg h2, if_neg (Ne.symm h2), if_neg (Ne.symm h1)]
/-- the last one is moved one place down -/
theorem Rot.down {xs ys : List α} {j m : Nat} (h : Rot xs ys j m (m + 1)) (h1 : 1 ≤ j) (h2 : j ≤ m) (hm : m < xs.length) : Rot xs (swp ys j (j - 1)) (j - 1) m (m + 1) := by
  have hl := h.len
  refine ⟨by rw [swp_len, hl], fun i => ?_⟩
  rw [swp_get _ _ _ _ (by omega) (by omega), h.at_]
  congr 1
  unfold rix
  repeat' split
  all_goals omega
/-- the first one is moved one place up -/
theorem Rot.up {xs ys : List α} {a k : Nat} (h : Rot xs ys a (a + 1) (k + 1)) (h1 : a ≤ k) (hm : k + 1 < xs.length) : Rot xs (swp ys k (k + 1)) a (a + 1) (k + 1 + 1) := by
  have hl := h.len
  refine ⟨by rw [swp_len, hl], fun i => ?_⟩
  rw [swp_get _ _ _ _ (by omega) (by omega), h.at_]
  congr 1
  unfold rix
  repeat' split
  all_goals omega
/-- where the k-th came from when the n from a on and the n from b on change places -/
def six (a b n k : Nat) : Nat := if a ≤ k ∧ k < a + n then k + (b - a) else if b ≤ k ∧ k < b + n then k - (b - a) else k
structure Swr (xs ys : List α) (a b n : Nat) : Prop where
  len : ys.length = xs.length
  at_ : ∀ i, ys[i]? = xs[six a b n i]?
theorem Swr.zero (xs : List α) (a b : Nat) : Swr xs xs a b 0 := ⟨rfl, fun i => by congr 1; unfold six; split <;> (try split) <;> omega⟩
theorem Swr.step {xs ys : List α} {a b n : Nat} (h : Swr xs ys a b n) (h1 : a + n < b) (h2 : b + n < xs.length) : Swr xs (swp ys (a + n) (b + n)) a b (n + 1) := by
  have hl := h.len
  refine ⟨by rw [swp_len, hl], fun i => ?_⟩
  rw [swp_get _ _ _ _ (by omega) (by omega), h.at_]
  congr 1
  unfold six
  repeat' split
  all_goals omega
/-- the rotation that is still to be done, to come to ts -/
structure Todo (cur ts : List α) (s m e : Nat) : Prop where
  len : ts.length = cur.length
  at_ : ∀ i, ts[i]? = cur[rix s m e i]?
theorem Todo.left {cur nxt ts : List α} {m i j : Nat} (h : Todo cur ts (m - i) m (m + j)) (hs : Swr cur nxt (m - i) m j) (hi : i ≤ m) (hij : j < i) : Todo nxt ts (m - (i - j)) m (m + j) := by
  refine ⟨by rw [h.len, hs.len], fun k => ?_⟩
  rw [h.at_, hs.at_]
  congr 1
  unfold rix six
  repeat' split
  all_goals omega
theorem Todo.right {cur nxt ts : List α} {m i j : Nat} (h : Todo cur ts (m - i) m (m + j)) (hs : Swr cur nxt (m - i) (m + j - i) i) (hi : i ≤ m) (hij : i < j) : Todo nxt ts (m - i) m (m + (j - i)) := by
  refine ⟨by rw [h.len, hs.len], fun k => ?_⟩
  rw [h.at_, hs.at_]
  congr 1
  unfold rix six
  repeat' split
  all_goals omega
theorem Todo.last {cur nxt ts : List α} {m i : Nat} (h : Todo cur ts (m - i) m (m + i)) (hs : Swr cur nxt (m - i) m i) (hi : i ≤ m) : ts = nxt := by
  apply List.ext_getElem?
  intro k
  rw [h.at_, hs.at_]
  congr 1
  unfold rix six
  repeat' split
  all_goals omega

theorem sym_plain {xs zs us vs : List α} {a m b s e mid : Nat} (hab : a ≤ s) (hsm : s ≤ m) (hsd : s ≤ mid) (hme : m ≤ e) (hde : mid ≤ e) (heb : e ≤ b) (hb : b ≤ xs.length) (hmid : mid + m = s + e) 
    (h1 : Srt key (seg xs a m)) (h2 : Srt key (seg xs m b))
    (c1 : s < m → m < e → key (ge xs (e - 1)) < key (ge xs s)) (c2 : a < s → e < b → key (ge xs (s - 1)) ≤ key (ge xs e))
    (hr : Rot xs zs s m e) (hu : Mg key zs us a mid) (hv : Mg key us vs mid b) : Mg key xs vs a b := by
  have I1 := (srt_seg (key := key) (show m ≤ xs.length by omega)).1 h1
  have I2 := (srt_seg (key := key) hb).1 h2
  have lz : zs.length = xs.length := hr.chg.len
  have lu : us.length = xs.length := hu.chg.len.trans lz
  have lv : vs.length = xs.length := hv.chg.len.trans lu
  have hd : s + (e - m) = mid := by omega
  have r1 := hr.lo hsm hme
  have r2 := hr.hi hsm hme
  rw [hd] at r1 r2
  -- the pieces of zs
  have z1 : seg zs a mid = seg xs a s ++ seg xs m e := by
    rw [seg_split zs hab hsd, hr.chg.seg (.inl (Nat.le_refl _)), r1]
  have z2 : seg zs mid b = seg xs s m ++ seg xs e b := by
    rw [seg_split zs hde heb, r2, hr.chg.seg (.inr (Nat.le_refl _))]
  have sx : seg xs a b = (seg xs a s ++ seg xs s m) ++ (seg xs m e ++ seg xs e b) := by
    rw [← seg_split xs hab hsm, ← seg_split xs hme heb, ← seg_split xs (by omega) (by omega)]
  -- what stands left is no more than what stands right
  have x12 : ∀ x ∈ seg xs m e, ∀ y ∈ seg xs s m, key x < key y := by
    intro x hx y hy
    obtain ⟨i, i1, i2, rfl⟩ := (mem_seg (by omega)).1 hx
    obtain ⟨j, j1, j2, rfl⟩ := (mem_seg (by omega)).1 hy
    have a1 := c1 (by omega) (by omega)
    have a2 : key (ge xs i) ≤ key (ge xs (e - 1)) := by
      by_cases q : i = e - 1
      · subst q; exact Int.le_refl _
      · exact I2 i (e - 1) i1 (by omega) (by omega)
    have a3 : key (ge xs s) ≤ key (ge xs j) := by
      by_cases q : s = j
      · subst q; exact Int.le_refl _
      · exact I1 s j hab (by omega) j2
    omega
  have cross : ∀ x ∈ seg xs a s ++ seg xs m e, ∀ y ∈ seg xs s m ++ seg xs e b, key x ≤ key y := by
    intro x hx y hy
    rcases List.mem_append.1 hx with hx | hx <;> rcases List.mem_append.1 hy with hy | hy
    · obtain ⟨i, i1, i2, rfl⟩ := (mem_seg (by omega)).1 hx
      obtain ⟨j, j1, j2, rfl⟩ := (mem_seg (by omega)).1 hy
      exact I1 i j i1 (by omega) j2
    · obtain ⟨i, i1, i2, rfl⟩ := (mem_seg (by omega)).1 hx
      obtain ⟨j, j1, j2, rfl⟩ := (mem_seg hb).1 hy
      have a1 := c2 (by omega) (by omega)
      have a2 : key (ge xs i) ≤ key (ge xs (s - 1)) := by
        by_cases q : i = s - 1
        · subst q; exact Int.le_refl _
        · exact I1 i (s - 1) i1 (by omega) (by omega)
      have a3 : key (ge xs e) ≤ key (ge xs j) := by
        by_cases q : e = j
        · subst q; exact Int.le_refl _
        · exact I2 e j hme (by omega) j2
      omega
    · exact Int.le_of_lt (x12 x hx y hy)
    · obtain ⟨i, i1, i2, rfl⟩ := (mem_seg (by omega)).1 hx
      obtain ⟨j, j1, j2, rfl⟩ := (mem_seg hb).1 hy
      exact I2 i j i1 (by omega) j2
  have v1 : seg vs a mid = seg us a mid := hv.chg.seg (.inl (Nat.le_refl _))
  have u2 : seg us mid b = seg zs mid b := hu.chg.seg (.inr (Nat.le_refl _))
  have sv : seg vs a b = seg us a mid ++ seg vs mid b := by rw [seg_split vs (show a ≤ mid by omega) (show mid ≤ b by omega), v1]
  have same1 : Same key (seg us a mid) (seg xs a s ++ seg xs m e) := by rw [← z1]; exact hu.same
  have same2 : Same key (seg vs mid b) (seg xs s m ++ seg xs e b) := by rw [← z2, ← u2]; exact hv.same
  refine ⟨((hr.chg.wide hab heb).trans (hu.chg.wide (Nat.le_refl _) (by omega))).trans (hv.chg.wide (by omega) (Nat.le_refl _)), ?_, ?_⟩
  · rw [sv]
    exact Srt.append.2 ⟨hu.srt, hv.srt, fun x hx y hy => cross x (same1.mem hx) y (same2.mem hy)⟩
  · rw [sv, sx]
    refine (same1.append same2).trans ?_
    have : Same key (seg xs m e ++ seg xs s m) (seg xs s m ++ seg xs m e) := (Same.swap (fun x hx y hy => x12 y hy x hx)).symm
    have := ((Same.refl (seg xs a s)).append this).append (Same.refl (seg xs e b))
    simpa [List.append_assoc] using this

/-- a piece already sorted -/
theorem Mg.id {xs : List α} {a b : Nat} (h : Srt key (seg xs a b)) : Mg key xs xs a b := ⟨Chg.refl _ _ _, h, Same.refl _⟩
/-- a rotation that sorts at once -/
theorem rot_mg {xs zs : List α} {a m b s e : Nat} (hab : a ≤ s) (hsm : s ≤ m) (hme : m ≤ e) (heb : e ≤ b) (hb : b ≤ xs.length)
    (h1 : Srt key (seg xs a m)) (h2 : Srt key (seg xs m b))
    (c1 : s < m → m < e → key (ge xs (e - 1)) < key (ge xs s)) (c2 : a < s → e < b → key (ge xs (s - 1)) ≤ key (ge xs e))
    (c3 : s < m → e < b → key (ge xs (m - 1)) ≤ key (ge xs e)) (c4 : a < s → m < e → key (ge xs (s - 1)) ≤ key (ge xs m))
    (hr : Rot xs zs s m e) : Mg key xs zs a b := by
  have I1 := (srt_seg (key := key) (show m ≤ xs.length by omega)).1 h1
  have I2 := (srt_seg (key := key) hb).1 h2
  have r1 := hr.lo hsm hme
  have r2 := hr.hi hsm hme
  refine sym_plain (s := s) (e := e) (m := m) (mid := s + (e - m)) hab hsm (by omega) hme (by omega) heb hb (by omega) h1 h2 c1 c2 hr (Mg.id ?_) (Mg.id ?_)
  · rw [seg_split zs hab (by omega), hr.chg.seg (.inl (Nat.le_refl _)), r1]
    refine Srt.append.2 ⟨(srt_seg (by omega)).2 fun i j i1 i2 i3 => I1 i j i1 i2 (by omega), (srt_seg (by omega)).2 fun i j i1 i2 i3 => I2 i j i1 i2 (by omega), fun x hx y hy => ?_⟩
    obtain ⟨i, i1, i2, rfl⟩ := (mem_seg (by omega)).1 hx
    obtain ⟨j, j1, j2, rfl⟩ := (mem_seg (by omega)).1 hy
    have a1 := c4 (by omega) (by omega)
    have a2 : key (ge xs i) ≤ key (ge xs (s - 1)) := by
      by_cases q : i = s - 1
      · subst q; exact Int.le_refl _
      · exact I1 i (s - 1) i1 (by omega) (by omega)
    have a3 : key (ge xs m) ≤ key (ge xs j) := by
      by_cases q : m = j
      · subst q; exact Int.le_refl _
      · exact I2 m j (Nat.le_refl _) (by omega) (by omega)
    omega
  · rw [seg_split zs (show s + (e - m) ≤ e by omega) heb, hr.chg.seg (.inr (Nat.le_refl _)), r2]
    refine Srt.append.2 ⟨(srt_seg (by omega)).2 fun i j i1 i2 i3 => I1 i j (by omega) i2 (by omega), (srt_seg (by omega)).2 fun i j i1 i2 i3 => I2 i j (by omega) i2 (by omega), fun x hx y hy => ?_⟩
    obtain ⟨i, i1, i2, rfl⟩ := (mem_seg (by omega)).1 hx
    obtain ⟨j, j1, j2, rfl⟩ := (mem_seg (by omega)).1 hy
    have a1 := c3 (by omega) (by omega)
    have a2 : key (ge xs i) ≤ key (ge xs (m - 1)) := by
      by_cases q : i = m - 1
      · subst q; exact Int.le_refl _
      · exact I1 i (m - 1) (by omega) (by omega) (by omega)
    have a3 : key (ge xs e) ≤ key (ge xs j) := by
      by_cases q : e = j
      · subst q; exact Int.le_refl _
      · exact I2 e j (by omega) (by omega) (by omega)
    omega
/-- one more is set in -/
theorem Mg.step {xs ys zs : List α} {a i : Nat} (h : Mg key xs ys a i) (h' : Mg key ys zs a (i + 1)) (hai : a ≤ i) : Mg key xs zs a (i + 1) := by
  refine ⟨(h.chg.wide (Nat.le_refl _) (by omega)).trans h'.chg, h'.srt, h'.same.trans ?_⟩
  rw [seg_split ys hai (by omega), seg_split xs hai (show i ≤ i + 1 by omega)]
  refine h.same.append ?_
  rw [h.chg.seg (.inr (Nat.le_refl _))]
  exact Same.refl _
theorem Mg.one (xs : List α) (a : Nat) (ha : a ≤ xs.length) : Mg key xs xs a a := Mg.id (by rw [seg_nil _ (Nat.le_refl _)]; exact List.Pairwise.nil)
theorem Mg.single (xs : List α) (a : Nat) (ha : a + 1 ≤ xs.length) : Mg key xs xs a (a + 1) := Mg.id ((srt_seg ha).2 fun i j h1 h2 h3 => by omega)
end

end Go.Proofs.YtahegjhjonodlaaDoor.Stb
