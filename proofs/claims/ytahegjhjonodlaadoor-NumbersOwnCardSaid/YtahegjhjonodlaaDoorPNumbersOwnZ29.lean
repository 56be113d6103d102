/- Worlds in which some blocks are spoilt and all else is as it was. -/
import Derived.Test.YtahegjhjonodlaaDoorPNumbersOwnZ1
import Derived.Test.YtahegjhjonodlaaDoorPNumbersOwnZ2
import Derived.Test.YtahegjhjonodlaaDoorPNumbersOwnZ3
import Derived.Test.YtahegjhjonodlaaDoorPNumbersOwnZ4
import Derived.Test.YtahegjhjonodlaaDoorPNumbersOwnZ6
import Derived.Test.YtahegjhjonodlaaDoorPNumbersOwnZ7
import Derived.Test.YtahegjhjonodlaaDoorPNumbersOwnZ11
import Derived.Test.YtahegjhjonodlaaDoorPNumbersOwnZ12
import Derived.Test.YtahegjhjonodlaaDoorPNumbersOwnZ13
import Derived.Test.YtahegjhjonodlaaDoorPNumbersOwnZ14
import Derived.Test.YtahegjhjonodlaaDoorPNumbersOwnZ15
import Derived.Test.YtahegjhjonodlaaDoorPNumbersOwnZ16
import Derived.Test.YtahegjhjonodlaaDoorPNumbersOwnZ17
import Derived.Test.YtahegjhjonodlaaDoorPNumbersOwnZ18
import Derived.Test.YtahegjhjonodlaaDoorPNumbersOwnZ19
import Derived.Test.YtahegjhjonodlaaDoorPNumbersOwnZ25
import Derived.Test.YtahegjhjonodlaaDoorPNumbersOwnZ26
import Derived.Test.YtahegjhjonodlaaDoorPNumbersOwnZ27
import Derived.Test.YtahegjhjonodlaaDoorPNumbersOwnZ28
import Derived.Test.YtahegjhjonodlaaDoorRows
import Derived.BigQuiet
import Derived.DataElems
import Derived.Deep.AppendSrc
import Derived.Deep.DeepAppendRoom
import Derived.Deep.LoopGhost
import Derived.Deep.OwnRows
import Derived.Deep.QuietTactic
import Derived.Deep.RegionLaw
import Derived.Deep.SlicePairs
import Derived.Deep.Slices
import Derived.Deep.Strs
import Derived.Handy
import Derived.Laws.AppendOwn
import Derived.Laws.Cover1
import Derived.Lib.Bytealg
import Derived.Lib.Hide
import Derived.Lib.SliceRun
import Derived.Lib.Walk
import Derived.OpenShut
import Derived.Outline
import Derived.OwnWalk
import Derived.PlainAid
import Derived.ProofKit
import Derived.RegionTactic
import Derived.Shelf.Abstract
import Derived.Sort.Walk0
import Derived.WalkKit
import Derived.WalkSpells
namespace Go.Proofs.YtahegjhjonodlaaDoor
open Go.ChangeShapes Go.WideShapes Go.ChangeAt Go.RowKit
set_option linter.unusedVariables false
set_option maxRecDepth 100000

/-- but for the blocks of P nothing of the older world is changed -/
structure But (P : Nat → Prop) (w w' : World) : Prop where
  os : w'.os = w.os
  tape : w'.tape = w.tape
  output : w'.output = w.output
  size : w.heap.size ≤ w'.heap.size
  block : ∀ b, b < w.heap.size → ¬ P b → w'.heap[b]? = w.heap[b]?
theorem But.refl (P : Nat → Prop) (w : World) : But P w w := ⟨rfl, rfl, rfl, Nat.le_refl _, fun _ _ _ => rfl⟩
theorem But.mono {P Q : Nat → Prop} {w w' : World} (h : But P w w') (hp : ∀ b, P b → Q b) : But Q w w' :=
  ⟨h.os, h.tape, h.output, h.size, fun b hb hq => h.block b hb (fun hP => hq (hp b hP))⟩
theorem But.grown {P : Nat → Prop} {w w' w'' : World} {o : Option Nat} (h : But P w w') (hg : w'.grownBy w'' o) (hp : ∀ b, o = some b → b < w.heap.size → P b) : But P w w'' := by
  obtain ⟨h1, h2, h3, h4, h5⟩ := hg
  refine ⟨h1.trans h.os, h2.trans h.tape, h3.trans h.output, Nat.le_trans h.size h4, fun b hb hq => ?_⟩
  refine (h5 b (Nat.lt_of_lt_of_le hb h.size) (fun e => hq (hp b ?_ hb))).trans (h.block b hb hq)
  first | exact e | exact e.symm
theorem But.mor {P : Nat → Prop} {w w' w'' : World} (h : But P w w') (hm : Mor w' w'') : But P w w'' := h.grown (grown_mor hm none) (by simp)
theorem But.trans' {P : Nat → Prop} {w w' w'' : World} (h : But P w w') (h2 : But P w' w'') : But P w w'' :=
  ⟨h2.os.trans h.os, h2.tape.trans h.tape, h2.output.trans h.output, Nat.le_trans h.size h2.size, fun b hb hq => (h2.block b (Nat.lt_of_lt_of_le hb h.size) hq).trans (h.block b hb hq)⟩
theorem own_but {P : Nat → Prop} {w w' : World} {B s n : Nat} {T : TypeId} {v : Value} {xs : List Value} (h : w.ownsRow B T s v n xs) (hb : But P w w') (hp : ∀ b, v.ownBlock = some b → ¬ P b) : w'.ownsRow B T s v n xs := by
  have hlt := World.ownsRow.lt h
  refine ⟨h.1, ?_⟩
  rcases h.2 with hn | ⟨g, cap, cur2, rfl, hg2, hh, rest⟩
  · exact .inl hn
  · refine .inr ⟨g, cap, cur2, rfl, hg2, (hb.block g (hlt g rfl).2 (hp g rfl)).trans hh, rest⟩
theorem blk_but {P : Nat → Prop} {w w' : World} {g : Nat} {t : TypeId} {cs : Array Value} (h : Blk w g t cs) (hb : But P w w') (hp : ¬ P g) : Blk w' g t cs :=
  (hb.block g h.lt hp).trans h
theorem But.toMor {P : Nat → Prop} {w w1 w2 : World} (h : Mor w w1) (hb : But P w1 w2) (hP : ∀ b, P b → w.heap.size ≤ b) : Mor w w2 := by
  have hB := h.below
  exact Mor.of_below ⟨hb.os.trans hB.os, hb.tape.trans hB.tape, hb.output.trans hB.output, Nat.le_trans hB.size hb.size, fun k hk => (hb.block k (Nat.lt_of_lt_of_le hk hB.size) (fun hp => by have := hP k hp; omega)).trans (hB.block k hk)⟩
theorem OwnSl.nil {w : World} {B : Nat} {s : Sl} (h : OwnSl w B s) : s.A = none → s.n = 0 := fun e => by
  obtain ⟨A2, c2, e1, _, _, hA⟩ := own_shape h
  rcases Nat.eq_zero_or_pos s.n with h0 | h0
  · exact h0
  · obtain ⟨g, hg, _⟩ := hA h0
    unfold Sl.v at e1
    injection e1 with e2 _ _
    rw [e] at e2; rw [← e2] at hg; cases hg
theorem OwnSl.ri {w : World} {B : Nat} {s : Sl} (h : OwnSl w B s) : Ri w s.A s.xs := own_ri h
theorem OwnSl.len {w : World} {B : Nat} {s : Sl} (h : OwnSl w B s) : s.xs.length = s.n := by have := h.1; simpa using this
theorem nrows_ints (o r p : Int) (T : Nat) : ∀ u ∈ nrows o r p T, ∃ k, u = .int .i64 k := by
  induction T with
  | zero => intro u hu; simp [nrows, flat] at hu
  | succ T ih =>
    intro u hu
    rw [nrows_succ, List.mem_append] at hu
    rcases hu with h | h
    · exact ih u h
    · simp [nrow] at h; rcases h with h | h | h <;> exact ⟨_, h⟩
/-- the blocks that are spoilt before the slice k -/
def Pk (L : List Sl) (g k : Nat) (b : Nat) : Prop := b = g ∨ ∃ j, j < k ∧ (sg L j).v.ownBlock = some b
theorem Pk.up {L : List Sl} {g k : Nat} : ∀ b, Pk L g k b → Pk L g (k + 1) b := by
  rintro b (h | ⟨j, h, e⟩)
  · exact .inl h
  · exact .inr ⟨j, by omega, e⟩
/-- slices that lie one behind the other -/
def Apart (L : List Sl) (S : List Nat) (g n : Nat) (w : World) : Prop :=
  g < S.getD 0 0 ∧ ∀ k, k < n → OwnSl w (S.getD k 0) (sg L k) ∧ (∀ b, (sg L k).v.ownBlock = some b → b < S.getD (k + 1) 0) ∧ (sg L k).n ≤ 1000000 ∧ S.getD k 0 ≤ S.getD (k + 1) 0
theorem Apart.le {L : List Sl} {S : List Nat} {g n : Nat} {w : World} (h : Apart L S g n w) {j k : Nat} (hj : j ≤ k) (hk : k ≤ n) : S.getD j 0 ≤ S.getD k 0 := by
  obtain ⟨d, rfl⟩ : ∃ d, k = j + d := ⟨k - j, by omega⟩
  clear hj
  induction d with
  | zero => exact Nat.le_refl _
  | succ d ih => exact Nat.le_trans (ih (by omega)) (h.2 (j + d) (by omega)).2.2.2
theorem Apart.lt {L : List Sl} {S : List Nat} {g n : Nat} {w : World} (h : Apart L S g n w) {k b : Nat} (hk : k ≤ n) (hb : Pk L g k b) : b < S.getD k 0 := by
  rcases hb with rfl | ⟨j, hj, e⟩
  · exact Nat.lt_of_lt_of_le h.1 (h.le (Nat.zero_le _) hk)
  · exact Nat.lt_of_lt_of_le ((h.2 j (by omega)).2.1 b e) (h.le hj hk)
/-- the slice k is not spoilt before its turn -/
theorem Apart.own {L : List Sl} {S : List Nat} {g n : Nat} {w w' : World} (h : Apart L S g n w) {k : Nat} (hk : k < n) (hb : But (Pk L g k) w w') : OwnSl w' (S.getD k 0) (sg L k) :=
  own_but (h.2 k hk).1 hb (fun b e hp => by
    have h1 := h.lt (Nat.le_of_lt hk) hp
    have h2 := (World.ownsRow.lt (h.2 k hk).1 b e).1
    omega)
theorem Apart.mor {L : List Sl} {S : List Nat} {g n : Nat} {w w' : World} (h : Apart L S g n w) (hm : Mor w w') : Apart L S g n w' :=
  ⟨h.1, fun k hk => by obtain ⟨h1, h2⟩ := h.2 k hk; exact ⟨own_mor h1 hm, h2⟩⟩
/-- a cell of a row of slices -/
theorem own_sl {w : World} {B n : Nat} {t : TypeId} {v : Value} {qs : List Sl} (h : w.ownsRow B t 1 v n (qs.map Sl.v)) (hq : qs.length = n) {k : Nat} (hk : k < n) :
    ∃ g c, v = .slice (some ⟨g, 0, none⟩) n c ∧ B ≤ g ∧ g < w.heap.size ∧ w.cell? ⟨g, k, none⟩ = some (.slice (sg qs k).A (sg qs k).n (sg qs k).c) := by
  obtain ⟨hl, hh | ⟨g, cap, cur, rfl, hg, hb, h1, h2, h3, h4⟩⟩ := h
  · omega
  · refine ⟨g, cap, rfl, hg, Blk.lt (cs := cur) hb, ?_⟩
    rw [Blk.cell (cs := cur) hb]
    have e : (cur.toList.take (n * 1))[k]? = (qs.map Sl.v)[k]? := by rw [h4]
    rw [List.getElem?_take, if_pos (by omega), List.getElem?_map, List.getElem?_eq_getElem (show k < qs.length by omega)] at e
    rw [← Array.getElem?_toList, e]
    simp [sg, Sl.v, List.getD_eq_getElem?_getD, List.getElem?_eq_getElem (show k < qs.length by omega)]
set_option maxHeartbeats 1600000 in
theorem spoil_nilR (p q r : Int) (w : World) : Calls Tryd.prog 22 #[.slice none 0 0, .agg #[.int .i64 p, .int .i64 q, .int .i64 r]] w fun e w' => e = .returned (.tuple #[]) ∧ Mor w w' := by
  go_enter Tryd.func22, Tryd.ntmps22
  go_wp2
  refine wp_loop_rounds 1 ?_
  repeat (
    rw [rounds_succ]
    go_wp2_with fail)
  go_returns
  exact ⟨rfl, (Mor.refl _).alloc⟩
/-- a row of rows of one's own is spoilt: nothing else is changed -/
theorem spoil_ownR (p q r : Int) {B n : Nat} {A : Option Addr} {c : Nat} {xs : List Value} {w : World} (h : w.ownsRow B 42 3 (.slice A n c) n xs) :
    Calls Tryd.prog 22 #[.slice A n c, .agg #[.int .i64 p, .int .i64 q, .int .i64 r]] w fun e w' => e = .returned (.tuple #[]) ∧ w.grownBy w' (Value.slice A n c).ownBlock := by
  obtain ⟨hl, ⟨hv, hn⟩ | ⟨g, cap, cur, hv, hg, hh, h1, h2, h3, h4⟩⟩ := h
  · rw [hv]
    refine (spoil_nilR p q r w).mono ?_
    rintro e w' ⟨rfl, hm⟩
    exact ⟨rfl, grown_mor hm none⟩
  · rw [hv]
    exact spoil_row g n cap cur p q r w hh h3 h1 h2

end Go.Proofs.YtahegjhjonodlaaDoor
