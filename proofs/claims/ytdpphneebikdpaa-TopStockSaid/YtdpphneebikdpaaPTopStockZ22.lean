/- Slices of integers, wherever they lie: 'Ri w A xs': the slice at A reads xs. -/
import Derived.Test.YtdpphneebikdpaaPTopStockZ1
import Derived.Test.YtdpphneebikdpaaPTopStockZ9
import Derived.Test.YtdpphneebikdpaaPTopStockZ21
import Derived.Test.YtdpphneebikdpaaRows
import Derived.BigQuiet
import Derived.Deep.OwnRows
import Derived.Deep.QuietTactic
import Derived.Handy
import Derived.Lib.Hide
import Derived.OpenShut
import Derived.Outline
import Derived.OwnWalk
import Derived.ProofKit
import Derived.RegionTactic
import Derived.WalkKit
namespace Go.Proofs.Ytdpphneebikdpaa
open Go.ChangeShapes Go.WideShapes Go.ChangeAt Go.RowKit
set_option linter.unusedVariables false
set_option maxRecDepth 100000

theorem Row.mor {w w' : World} {b o : Nat} {xs : List Int} (h : Row w b o xs) (hm : Mor w w') : Row w' b o xs := by
  obtain ⟨bs, k, rfl⟩ := hm; exact h.more
theorem Row.below {w w' : World} {b o : Nat} {xs : List Int} (h : Row w b o xs) (hm : Below w.heap.size w w') : Row w' b o xs := h.mor (Mor.of_below hm)
theorem getD_mem (xs : List Int) (i : Nat) (hi : i < xs.length) : xs.getD i 0 ∈ xs := by
  rw [List.getD_eq_getElem?_getD, List.getElem?_eq_getElem hi]; exact List.getElem_mem hi

/-- the slice of integers at A reads xs -/
def Ri (w : World) (A : Option Addr) (xs : List Int) : Prop :=
  xs = [] ∨ ∃ x, A = some x ∧ x.block < w.heap.size ∧ ∀ i, i < xs.length → w.cell? (x.add i) = some (.int .i64 (xs.getD i 0))

theorem Ri.nil (w : World) (A : Option Addr) : Ri w A [] := .inl rfl
theorem add_block (x : Addr) (i : Nat) : (x.add i).block = x.block := by unfold Addr.add; split <;> rfl
theorem add_mk (b o i : Nat) : (⟨b, o, none⟩ : Addr).add i = ⟨b, o + i, none⟩ := by
  unfold Addr.add; split
  · subst_vars; rfl
  · rfl
theorem Ri.mor {w w' : World} {A : Option Addr} {xs : List Int} (h : Ri w A xs) (hm : Mor w w') : Ri w' A xs := by
  rcases h with h | ⟨x, e, hb, hc⟩
  · exact .inl h
  · have hB := hm.below
    exact .inr ⟨x, e, by have := hB.size; omega, fun i hi => (hB.cell (p := x.add i) (by rw [add_block]; exact hb)).trans (hc i hi)⟩
theorem Ri.below {w w' : World} {A : Option Addr} {xs : List Int} (h : Ri w A xs) (hB : Below w.heap.size w w') : Ri w' A xs := by
  rcases h with h | ⟨x, e, hb, hc⟩
  · exact .inl h
  · exact .inr ⟨x, e, by have := hB.size; omega, fun i hi => (hB.cell (p := x.add i) (by rw [add_block]; exact hb)).trans (hc i hi)⟩
theorem Ri.drewN {w : World} {A : Option Addr} {xs : List Int} {k : Nat} (h : Ri w A xs) : Ri (w.drewN k) A xs := h
theorem Ri.alloc {w : World} {A : Option Addr} {xs : List Int} {o : Obj} (h : Ri w A xs) : Ri (w.alloc o) A xs := h.mor ((Mor.refl _).alloc)
theorem Ri.up {w : World} {A : Option Addr} {xs : List Int} {cs : List Obj} {n : Nat} (h : Ri w A xs) : Ri (more w cs n) A xs := h.mor ((Mor.refl _).more)
theorem Ri.to {w : World} {A : Option Addr} {xs : List Int} {bs cs : List Obj} {k n : Nat} (h : Ri (more w bs k) A xs) (hp : bs <+: cs) : Ri (more w cs n) A xs := by
  obtain ⟨ds, rfl⟩ := hp
  rw [← more_more w bs ds k n]; exact h.up
theorem Ri.take {w : World} {A : Option Addr} {xs : List Int} {k : Nat} (h : Ri w A xs) : Ri w A (xs.take k) := by
  rcases h with h | ⟨x, e, hb, hc⟩
  · subst h; rw [List.take_nil]; exact .inl rfl
  · refine .inr ⟨x, e, hb, fun i hi => ?_⟩
    rw [List.length_take] at hi
    rw [hc i (by omega), List.getD_eq_getElem?_getD, List.getD_eq_getElem?_getD, List.getElem?_take, if_pos (by omega)]
theorem Ri.at_ {w : World} {A : Option Addr} {xs : List Int} (h : Ri w A xs) (i : Nat) (hi : i < xs.length) : ∃ x, A = some x ∧ x.block < w.heap.size ∧ w.cell? (x.add i) = some (.int .i64 (xs.getD i 0)) := by
  rcases h with h | ⟨x, e, hb, hc⟩
  · subst h; simp at hi
  · exact ⟨x, e, hb, hc i hi⟩
/-- the cells of the integers xs -/
def ic (xs : List Int) : Array Value := (xs.map (Value.int .i64)).toArray
theorem ic_get (xs : List Int) (i : Nat) (h : i < xs.length) : (ic xs)[i]? = some (.int .i64 (xs.getD i 0)) := by
  simp [ic, List.getD_eq_getElem?_getD, h]
/-- block g of the heap is just the cells cs -/
def Blk (w : World) (g : Nat) (t : TypeId) (cs : Array Value) : Prop := w.heap[g]? = some (.cells cs t (0, 0))
section
variable {w w' : World} {g : Nat} {t : TypeId} {cs : Array Value}
theorem Blk.lt (h : Blk w g t cs) : g < w.heap.size := by
  rcases Nat.lt_or_ge g w.heap.size with hlt | hge
  · exact hlt
  · unfold Blk at h; rw [Array.getElem?_eq_none hge] at h; cases h
theorem Blk.cell (h : Blk w g t cs) (i : Nat) : w.cell? ⟨g, i, none⟩ = cs[i]? := by
  unfold Blk at h
  simp [World.cell?, h]
theorem Blk.frozen (h : Blk w g t cs) (i : Nat) : w.frozen? ⟨g, i, none⟩ = false := by
  unfold Blk at h
  simp [World.frozen?, h]
theorem Blk.new (w : World) (t : TypeId) (cs : Array Value) : Blk (w.alloc (.cells cs t)) w.heap.size t cs := heap_alloc_new w _
theorem Blk.drewN (h : Blk w g t cs) (n : Nat) : Blk (w.drewN n) g t cs := h
theorem Blk.drew (h : Blk w g t cs) : Blk w.drew g t cs := h
theorem Blk.alloc (h : Blk w g t cs) (o : Obj) : Blk (w.alloc o) g t cs := (Below.heap_alloc w o g h.lt).trans h
theorem Blk.set_ (h : Blk w g t cs) (i : Nat) (u : Value) : Blk (w.setCell ⟨g, i, none⟩ u) g t (cs.setIfInBounds i u) := by
  unfold Blk at h ⊢
  simp [World.setCell, Array.getElem?_modify, h]
theorem Blk.below {B : Nat} (h : Blk w g t cs) (hb : Below B w w') (hg : g < B) : Blk w' g t cs := (hb.block g hg).trans h
end
/-- a store turns its own block alone -/
theorem set_far (w : World) (p q : Addr) (u : Value) (h : q.block ≠ p.block) : (w.setCell p u).cell? q = w.cell? q ∧ (w.setCell p u).frozen? q = w.frozen? q :=
  ⟨World.cell?_setCell_other w p q u (fun e => h (by rw [e])), World.frozen?_of_block (Below.heap_setCell _ _ _ _ h)⟩
theorem Row.far {w w' : World} {b o : Nat} {xs : List Int} (h : Row w b o xs) (hs : b < w'.heap.size) (hf : ∀ q : Addr, q.block = b → w'.cell? q = w.cell? q) : Row w' b o xs :=
  ⟨hs, fun i hi => (hf _ rfl).trans (h.2 i hi)⟩
theorem Blk.row {w : World} {g : Nat} {t : TypeId} {xs : List Int} (h : Blk w g t (ic xs)) : Row w g 0 xs :=
  ⟨h.lt, fun i hi => by rw [Nat.zero_add, h.cell, ic_get _ _ hi]⟩

theorem info_int' : (Try.prog.info? 3).map (fun i => (i.zero, i.size, i.bytes)) = some (some (.int .i64 0), 1, 8) := by kernel_rfl
/-- the cells cur begin with the integers xs -/
def CurR (cur : Array Value) (xs : List Int) : Prop := ∀ i, i < xs.length → cur[i]? = some (.int .i64 (xs.getD i 0))
theorem CurR.set {cur : Array Value} {xs : List Int} (h : CurR cur xs) (i : Nat) (v : Int) : CurR (cur.setIfInBounds i (.int .i64 v)) (xs.set i v) := by
  intro j hj
  rw [List.length_set] at hj
  have hs : j < cur.size := by
    rcases Nat.lt_or_ge j cur.size with a | a
    · exact a
    · have := h j hj; rw [Array.getElem?_eq_none a] at this; cases this
  rw [Array.getElem?_setIfInBounds, List.getD_eq_getElem?_getD, List.getElem?_set]
  by_cases e : i = j
  · subst e; rw [if_pos rfl, if_pos hs, if_pos rfl, if_pos hj]; rfl
  · rw [if_neg e, if_neg e, h j hj, List.getD_eq_getElem?_getD]
theorem CurR.ri {w : World} {g : Nat} {T : TypeId} {cur : Array Value} {xs : List Int} (h : CurR cur xs) (hb : Blk w g T cur) : Ri w (some ⟨g, 0, none⟩) xs :=
  .inr ⟨_, rfl, hb.lt, fun i hi => by rw [add_mk, Nat.zero_add, hb.cell]; exact h i hi⟩
/-- an owned row's block -/
theorem own_blkR {w : World} {base n : Nat} {T : TypeId} {v : Value} {xs : List Int} (h : w.ownsRow base T 1 v n (xs.map (Value.int .i64))) (hn : 1 ≤ n) :
    ∃ g cap cur, v = .slice (some ⟨g, 0, none⟩) n cap ∧ base ≤ g ∧ n ≤ cap ∧ Blk w g T cur ∧ CurR cur xs := by
  obtain ⟨hl, h | ⟨g, cap, cur, rfl, hg, hb, h1, h2, h3, h4⟩⟩ := h
  · omega
  · refine ⟨g, cap, cur, rfl, hg, h1, hb, fun i hi => ?_⟩
    have := congrArg (fun l : List Value => l[i]?) h4
    have hlen : xs.length = n := by simpa using hl
    simp only [List.getElem?_take, List.getElem?_map] at this
    rw [if_pos (by omega)] at this
    rw [← Array.getElem?_toList, this, List.getD_eq_getElem?_getD, List.getElem?_eq_getElem hi]
    rfl

theorem CurR.row {w : World} {g : Nat} {T : TypeId} {cur : Array Value} {xs : List Int} (h : CurR cur xs) (hb : Blk w g T cur) : Row w g 0 xs :=
  ⟨hb.lt, fun i hi => by rw [Nat.zero_add, hb.cell]; exact h i hi⟩
theorem own_ri {w : World} {base n c : Nat} {T : TypeId} {A : Option Addr} {xs : List Int} (h : w.ownsRow base T 1 (.slice A n c) n (xs.map (Value.int .i64))) : Ri w A xs := by
  have hl := h.1
  rcases Nat.eq_zero_or_pos n with e | e
  · subst e
    exact .inl (List.eq_nil_of_length_eq_zero (by simpa using hl))
  · obtain ⟨g, cap, cur, hv, _, _, hb, hc⟩ := own_blkR h e
    injection hv with hA
    subst hA
    exact hc.ri hb

end Go.Proofs.Ytdpphneebikdpaa

/- Nothing but one block was turned. -/
namespace Go.Proofs.Ytdpphneebikdpaa
open Go.ChangeShapes Go.WideShapes Go.ChangeAt Go.RowKit
set_option linter.unusedVariables false
set_option maxRecDepth 100000

/-- nothing but the block g was turned -/
structure On (g : Nat) (w w' : World) : Prop where
  os : w'.os = w.os
  tape : w'.tape = w.tape
  output : w'.output = w.output
  size : w.heap.size ≤ w'.heap.size
  block : ∀ k, k ≠ g → k < w.heap.size → w'.heap[k]? = w.heap[k]?
theorem On.refl (g : Nat) (w : World) : On g w w := ⟨rfl, rfl, rfl, Nat.le_refl _, fun _ _ _ => rfl⟩
theorem On.trans {g : Nat} {a b c : World} (h : On g a b) (k : On g b c) : On g a c :=
  ⟨k.os.trans h.os, k.tape.trans h.tape, k.output.trans h.output, Nat.le_trans h.size k.size, fun i hi hl => (k.block i hi (Nat.lt_of_lt_of_le hl h.size)).trans (h.block i hi hl)⟩
theorem On.of_mor {g : Nat} {w w' : World} (h : Mor w w') : On g w w' := by
  have hb := h.below
  exact ⟨hb.os, hb.tape, hb.output, hb.size, fun k _ hk => hb.block k hk⟩
theorem On.mor {g : Nat} {w w1 w2 : World} (h : On g w w1) (hm : Mor w1 w2) : On g w w2 := h.trans (On.of_mor hm)
theorem On.setCell {g i : Nat} {w w' : World} (h : On g w w') (u : Value) : On g w (w'.setCell ⟨g, i, none⟩ u) :=
  ⟨h.os, h.tape, h.output, by rw [show (w'.setCell ⟨g, i, none⟩ u).heap.size = w'.heap.size by simp [World.setCell]]; exact h.size, fun k hk hl => (Below.heap_setCell _ _ _ _ hk).trans (h.block k hk hl)⟩
theorem On.drew {g : Nat} {w w' : World} (h : On g w w') : On g w w'.drew := ⟨h.os, h.tape, h.output, h.size, h.block⟩
theorem On.drewN {g n : Nat} {w w' : World} (h : On g w w') : On g w (w'.drewN n) := ⟨h.os, h.tape, h.output, h.size, h.block⟩
theorem On.below {g : Nat} {w w' : World} (h : On g w w') (hg : w.heap.size ≤ g) : Below w.heap.size w w' :=
  ⟨h.os, h.tape, h.output, h.size, fun k hk => h.block k (by omega) hk⟩
end Go.Proofs.Ytdpphneebikdpaa
