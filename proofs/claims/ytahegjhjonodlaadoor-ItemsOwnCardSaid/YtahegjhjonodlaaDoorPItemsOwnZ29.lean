/- How a book lies in memory, and how one that came in reads. -/
import Derived.Test.YtahegjhjonodlaaDoorPItemsOwnZ1
import Derived.Test.YtahegjhjonodlaaDoorPItemsOwnZ3
import Derived.Test.YtahegjhjonodlaaDoorPItemsOwnZ23
import Derived.Test.YtahegjhjonodlaaDoorPItemsOwnZ24
import Derived.Test.YtahegjhjonodlaaDoorPItemsOwnZ25
import Derived.Test.YtahegjhjonodlaaDoorPItemsOwnZ26
import Derived.Test.YtahegjhjonodlaaDoorPItemsOwnZ27
import Derived.Test.YtahegjhjonodlaaDoorPItemsOwnZ28
import Derived.Test.YtahegjhjonodlaaDoorRows
import Derived.BigQuiet
import Derived.DataElems
import Derived.Deep.LoopGhost
import Derived.Deep.QuietTactic
import Derived.Deep.SlicePairs
import Derived.Deep.Slices
import Derived.Deep.Strs
import Derived.Handy
import Derived.Laws.Cover1
import Derived.Lib.Bytealg
import Derived.Lib.Hide
import Derived.OpenShut
import Derived.Outline
import Derived.PlainAid
import Derived.ProofKit
import Derived.RegionTactic
import Derived.Shelf.Abstract
import Derived.Sort.Walk0
import Derived.WalkKit
namespace Go.Proofs.YtahegjhjonodlaaDoor
open Go.ChangeShapes Go.WideShapes Go.ChangeAt Go.RowKit Go.PlainAid
set_option linter.unusedVariables false

/-- a slice of pairs that reads xs -/
structure Lq (w : World) (A : Option Addr) (n c : Nat) (xs : List Ln) : Prop where
  si : Si w A xs
  length : xs.length = n
  le : n ≤ c
  max : c ≤ maxLen
  nil : A = none → n = 0
  str : ∀ i, i < n → (cd xs i).size ≤ maxLen
theorem Lq.mor {w w' : World} {A : Option Addr} {n c : Nat} {xs : List Ln} (h : Lq w A n c xs) (hm : Mor w w') : Lq w' A n c xs :=
  ⟨h.si.mor hm, h.length, h.le, h.max, h.nil, h.str⟩
theorem IsLn.lq {w : World} {A : Option Addr} {n c : Nat} {xs : List Ln} (h : IsLn w A n c xs) : Lq w A n c xs := ⟨h.si, h.length, h.le, h.max, h.nil, h.str⟩
/-- entries that the slice at X reads -/
def Es (w : World) (X : Option Addr) (es : List En) : Prop :=
  es = [] ∨ ∃ x, X = some x ∧ x.block < w.heap.size ∧ ∀ i, i < es.length → (ne es i).key.size ≤ maxLen ∧ ∃ A n c, w.cell? (x.add (i * 3)) = some (.string (ne es i).key) ∧
    w.cell? ⟨(x.add (i * 3)).block, (x.add (i * 3)).off + 1, none⟩ = some (.int .i64 (ne es i).day) ∧ w.cell? ⟨(x.add (i * 3)).block, (x.add (i * 3)).off + 2, none⟩ = some (.slice A n c) ∧ Lq w A n c (ne es i).ls
theorem Es.mor {w w' : World} {X : Option Addr} {es : List En} (h : Es w X es) (hm : Mor w w') : Es w' X es := by
  rcases h with h | ⟨x, e, hb, hc⟩
  · exact .inl h
  · have hB := hm.below
    refine .inr ⟨x, e, by have := hB.size; omega, fun i hi => ?_⟩
    obtain ⟨hk, A, n, c, c1, c2, c3, hl⟩ := hc i hi
    exact ⟨hk, A, n, c, (hB.cell (p := x.add (i * 3)) (by rw [addb]; exact hb)).trans c1, (hB.cell (p := ⟨(x.add (i * 3)).block, (x.add (i * 3)).off + 1, none⟩) (by rw [addb]; exact hb)).trans c2,
      (hB.cell (p := ⟨(x.add (i * 3)).block, (x.add (i * 3)).off + 2, none⟩) (by rw [addb]; exact hb)).trans c3, hl.mor hm⟩
theorem Es.at_ {w : World} {X : Option Addr} {es : List En} (h : Es w X es) (i : Nat) (hi : i < es.length) :
    ∃ x A n c, X = some x ∧ x.block < w.heap.size ∧ (ne es i).key.size ≤ maxLen ∧ w.cell? (x.add (i * 3)) = some (.string (ne es i).key) ∧
      w.cell? ⟨(x.add (i * 3)).block, (x.add (i * 3)).off + 1, none⟩ = some (.int .i64 (ne es i).day) ∧ w.cell? ⟨(x.add (i * 3)).block, (x.add (i * 3)).off + 2, none⟩ = some (.slice A n c) ∧ Lq w A n c (ne es i).ls := by
  rcases h with h | ⟨x, e, hb, hc⟩
  · subst h; simp at hi
  · obtain ⟨hk, A, n, c, c1, c2, c3, hl⟩ := hc i hi
    exact ⟨x, A, n, c, e, hb, hk, c1, c2, c3, hl⟩
/-- a book -/
structure Bq (w : World) (A : Option Addr) (n c : Nat) (X : Option Addr) (m k : Nat) (b : Bok) : Prop where
  ac : Lq w A n c b.ac
  es : Es w X b.en
  length : b.en.length = m
  le : m ≤ k
  max : k ≤ maxLen
  nil : X = none → m = 0
theorem Bq.mor {w w' : World} {A : Option Addr} {n c : Nat} {X : Option Addr} {m k : Nat} {b : Bok} (h : Bq w A n c X m k b) (hm : Mor w w') : Bq w' A n c X m k b :=
  ⟨h.ac.mor hm, h.es.mor hm, h.length, h.le, h.max, h.nil⟩
set_option maxRecDepth 20000
/- how they read that came in -/
theorem cells_str : Tryd.prog.cellsOf 9 = 1 := by kernel_rfl
theorem cells_int : Tryd.prog.cellsOf 3 = 1 := by kernel_rfl
instance : Inhabited En := ⟨en0⟩
end Go.Proofs.YtahegjhjonodlaaDoor

/- The walks of acct.Find, book.find, book.known, book.cmp. -/
namespace Go.Proofs.YtahegjhjonodlaaDoor
open Go.ChangeShapes Go.WideShapes Go.ChangeAt Go.RowKit Go.PlainAid
set_option linter.unusedVariables false
set_option maxRecDepth 100000

theorem fidx_at {p : Nat → Bool} {n k : Nat} (h : ∀ j, j < k → p j = false) (hk : k < n) (hp : p k = true) : fidx p 0 n = k := by
  rcases fidx_spec p n 0 with ⟨_, hn⟩ | ⟨i, e, _, h2, h3, h4⟩
  · have := hn k (by omega) (by omega); rw [hp] at this; cases this
  · rw [e]
    rcases Nat.lt_trichotomy i k with hlt | hlt | hlt
    · have := h i hlt; rw [h3] at this; cases this
    · rw [hlt]
    · have := h4 k (by omega) hlt; rw [hp] at this; cases this
theorem fidx_no {p : Nat → Bool} {n : Nat} (h : ∀ j, j < n → p j = false) : fidx p 0 n = -1 := by
  rcases fidx_spec p n 0 with ⟨e, _⟩ | ⟨i, e, _, h2, h3, h4⟩
  · exact e
  · have := h i (by omega); rw [h3] at this; cases this

theorem sz1 (w : World) (o : Obj) : w.heap.size + 1 = (w.alloc o).heap.size := by show _ = (w.heap.push _).size; simp
end Go.Proofs.YtahegjhjonodlaaDoor
