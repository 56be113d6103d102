/- The walk of swapRangeCmpFunc at items. -/
import Derived.Test.YtphkckonnogjmaaPlainV
import Derived.Test.YtphkckonnogjmaaPairs
import Derived.Test.YtphkckonnogjmaaInts
import Derived.Deep.RegionHeld3
import Derived.Shelf.Abstract
namespace Go.Proofs.Ytphkckonnogjmaa
open Go.ChangeShapes Go.WideShapes Go.ChangeAt Go.RowKit Stb
set_option linter.unusedVariables false

/-- nothing but the block g was turned -/
structure On (g : Nat) (w w' : World) : Prop where
  os : w'.os = w.os
  tape : w'.tape = w.tape
  output : w'.output = w.output
  size : w.heap.size ≤ w'.heap.size
  block : ∀ k, k ≠ g → k < w.heap.size → w'.heap[k]? = w.heap[k]?
theorem On.refl (g : Nat) (w : World) : On g w w := ⟨rfl, rfl, rfl, Nat.le_refl _, fun _ _ _ => rfl⟩
theorem On.trans {g : Nat} {a b c : World} (h : On g a b) (k : On g b c) : On g a c :=
  ⟨k.os.trans h.os, k.tape.trans h.tape, k.output.trans h.output, Nat.le_trans h.size k.size, fun i hi hl => (k.block i hi (Nat.lt_of_lt_of_le hl h.size)).trans (h.block i hi hl)⟩
theorem On.of_mor {g : Nat} {w w' : World} (h : Mor w w') : On g w w' := by
  have hb := h.below
  exact ⟨hb.os, hb.tape, hb.output, hb.size, fun k _ hk => hb.block k hk⟩
theorem On.mor {g : Nat} {w w1 w2 : World} (h : On g w w1) (hm : Mor w1 w2) : On g w w2 := h.trans (On.of_mor hm)
theorem On.setCell {g i : Nat} {w w' : World} (h : On g w w') (u : Value) : On g w (w'.setCell ⟨g, i, none⟩ u) :=
  ⟨h.os, h.tape, h.output, by rw [show (w'.setCell ⟨g, i, none⟩ u).heap.size = w'.heap.size by simp [World.setCell]]; exact h.size, fun k hk hl => (Below.heap_setCell _ _ _ _ hk).trans (h.block k hk hl)⟩
theorem On.drew {g : Nat} {w w' : World} (h : On g w w') : On g w w'.drew := ⟨h.os, h.tape, h.output, h.size, h.block⟩
theorem On.drewN {g n : Nat} {w w' : World} (h : On g w w') : On g w (w'.drewN n) := ⟨h.os, h.tape, h.output, h.size, h.block⟩
theorem On.below {g : Nat} {w w' : World} (h : On g w w') (hg : w.heap.size ≤ g) : Below w.heap.size w w' :=
  ⟨h.os, h.tape, h.output, h.size, fun k hk => h.block k (by omega) hk⟩
theorem On.blk {g : Nat} {w w' : World} {b : Nat} {t : TypeId} {cs : Array Value} (h : On g w w') (hb : Blk w b t cs) (hne : b ≠ g) : Blk w' b t cs := (h.block b hne hb.lt).trans hb

/-- the cells cur begin with the items xs -/
def CurP (cur : Array Value) (xs : List Pr) : Prop := ∀ i, i < xs.length → cur[i * 2]? = some (.int .i64 (ge xs i).1) ∧ cur[i * 2 + 1]? = some (.int .i64 (ge xs i).2)
theorem CurP.set {cur : Array Value} {xs : List Pr} (h : CurP cur xs) (i : Nat) (p : Pr) (hi : i < xs.length) : CurP ((cur.setIfInBounds (i * 2) (.int .i64 p.1)).setIfInBounds (i * 2 + 1) (.int .i64 p.2)) (xs.set i p) := by
  intro k hk
  rw [List.length_set] at hk
  obtain ⟨h1, h2⟩ := h k hk
  have s1 : i * 2 + 1 < cur.size := by
    rcases Nat.lt_or_ge (i * 2 + 1) cur.size with c | c
    · exact c
    · have := (h i hi).2; rw [Array.getElem?_eq_none c] at this; cases this
  have e : ge (xs.set i p) k = if i = k then p else ge xs k := by
    unfold ge
    rw [List.getD_eq_getElem?_getD, List.getElem?_set]
    by_cases c : i = k
    · subst c; rw [if_pos rfl, if_pos hi, if_pos rfl]; rfl
    · rw [if_neg c, if_neg c, List.getD_eq_getElem?_getD]
  rw [e, Array.getElem?_setIfInBounds, Array.getElem?_setIfInBounds, Array.getElem?_setIfInBounds, Array.getElem?_setIfInBounds]
  by_cases c : i = k
  · subst c
    rw [if_neg (by omega), if_pos rfl, if_pos (by omega), if_pos rfl, if_pos rfl, if_pos (by rw [Array.size_setIfInBounds]; omega)]
    exact ⟨rfl, rfl⟩
  · rw [if_neg c, if_neg (show ¬ i * 2 + 1 = k * 2 by omega), if_neg (show ¬ i * 2 = k * 2 by omega), if_neg (show ¬ i * 2 + 1 = k * 2 + 1 by omega), if_neg (show ¬ i * 2 = k * 2 + 1 by omega)]
    exact ⟨h1, h2⟩
/-- the block g begins with the items xs -/
def Dat (w : World) (g : Nat) (xs : List Pr) : Prop := ∃ T cur, Blk w g T cur ∧ CurP cur xs
theorem Dat.cell {w : World} {g : Nat} {xs : List Pr} (h : Dat w g xs) (i : Nat) (hi : i < xs.length) : w.cell? ⟨g, i * 2, none⟩ = some (.int .i64 (ge xs i).1) ∧ w.cell? ⟨g, i * 2 + 1, none⟩ = some (.int .i64 (ge xs i).2) := by
  obtain ⟨T, cur, hb, hc⟩ := h
  rw [hb.cell, hb.cell]; exact hc i hi
theorem Dat.frozen {w : World} {g : Nat} {xs : List Pr} (h : Dat w g xs) (i : Nat) : w.frozen? ⟨g, i * 2, none⟩ = false ∧ w.frozen? ⟨g, i * 2 + 1, none⟩ = false := by
  obtain ⟨T, cur, hb, hc⟩ := h
  exact ⟨hb.frozen _, hb.frozen _⟩
/-- the store of an item -/
abbrev put2 (w : World) (g i : Nat) (p : Pr) : World := (w.setCell ⟨g, i * 2, none⟩ (.int .i64 p.1)).setCell ⟨g, i * 2 + 1, none⟩ (.int .i64 p.2)
theorem Dat.put {w : World} {g : Nat} {xs : List Pr} (h : Dat w g xs) (i : Nat) (p : Pr) (hi : i < xs.length) : Dat (put2 w g i p) g (xs.set i p) := by
  obtain ⟨T, cur, hb, hc⟩ := h
  exact ⟨T, _, (hb.set_ _ _).set_ _ _, hc.set i p hi⟩
theorem Dat.swp {w : World} {g : Nat} {xs : List Pr} (h : Dat w g xs) (i j : Nat) (hi : i < xs.length) (hj : j < xs.length) : Dat (put2 (put2 w g i (ge xs j)) g j (ge xs i)) g (swp xs i j) :=
  (h.put i (ge xs j) hi).put j (ge xs i) (by rw [List.length_set]; exact hj)
theorem On.put {g : Nat} {w w' : World} (h : On g w w') (i : Nat) (p : Pr) : On g w (put2 w' g i p) := (h.setCell _).setCell _
theorem On.swp4 {g : Nat} {w w' : World} (h : On g w w') (i j : Nat) (u v : Pr) : On g w (put2 (put2 w' g i v) g j u) := (h.put i v).put j u
theorem Dat.drewN {w : World} {g n : Nat} {xs : List Pr} (h : Dat w g xs) : Dat (w.drewN n) g xs := h
theorem Dat.drew {w : World} {g : Nat} {xs : List Pr} (h : Dat w g xs) : Dat w.drew g xs := h
theorem Dat.lt {w : World} {g : Nat} {xs : List Pr} (h : Dat w g xs) : g < w.heap.size := by
  obtain ⟨T, cur, hb, hc⟩ := h
  exact hb.lt
theorem Dat.mor {w w' : World} {g : Nat} {xs : List Pr} (h : Dat w g xs) (hm : Mor w w') : Dat w' g xs := by
  obtain ⟨T, cur, hb, hc⟩ := h
  exact ⟨T, cur, hb.below hm.below hb.lt, hc⟩
/-- a callee turned the integers of the block g to some that are as R says -/
def ModPost (w : World) (g : Nat) (R : List Pr → Prop) (e : Ending) (w' : World) : Prop :=
  e = .returned (.tuple #[]) ∧ ∃ ys, R ys ∧ Dat w' g ys ∧ On g w w'

set_option maxRecDepth 100000 in
set_option maxHeartbeats 3200000 in
theorem swr_any (g N cap a b n : Nat) (cv : Value) (xs : List Pr) (w : World) (hd : Dat w g xs) (hN : xs.length = N) (hl : N ≤ 1000) (h1 : a + n ≤ b) (h2 : b + n ≤ N) :
    Calls Try.prog 59 #[.slice (some ⟨g, 0, none⟩) N cap, .int .i64 a, .int .i64 b, .int .i64 n, cv] w (ModPost w g (fun ys => Swr xs ys a b n)) := by
  have HD := Lib.hid hd
  have HN := Lib.hid hN
  clear hd hN
  go_enter Try.func59, Try.ntmps59
  go_wp2
  go_loopw [10] (fun i wr => ∃ (k : Nat) (ys : List Pr), k ≤ n ∧ i = .int .i64 k ∧ Hid (Swr xs ys a b k) ∧ Hid (Dat wr g ys) ∧ Hid (On g w wr)) (fun i _ => n - (intOf i).toNat)
  case atStart => exact ⟨0, xs, Nat.zero_le _, rfl, Lib.hid (Swr.zero _ _ _), HD, Lib.hid (On.refl _ _)⟩
  case round =>
    obtain ⟨k, ys, hk, rfl, HS, HY, HO⟩ := hrel
    by_cases hlt : k < n
    · have hki : (k : Int) < (n : Int) := by omega
      obtain ⟨p, hp⟩ : ∃ p, p = a + k := ⟨_, rfl⟩
      obtain ⟨q, hq⟩ : ∃ q, q = b + k := ⟨_, rfl⟩
      have e1 : (a : Int) + (k : Int) = (p : Int) := by omega
      have e2 : (b : Int) + (k : Int) = (q : Int) := by omega
      have p0 : (0 : Int) ≤ (p : Int) := by omega
      have q0 : (0 : Int) ≤ (q : Int) := by omega
      have pN : (p : Int) < (N : Int) := by omega
      have qN : (q : Int) < (N : Int) := by omega
      have hyl : ys.length = N := by rw [HS.out.len, HN.out]
      obtain ⟨cp, cp'⟩ := HY.out.cell p (by omega)
      obtain ⟨cq, cq'⟩ := HY.out.cell q (by omega)
      obtain ⟨fp, fp'⟩ := HY.out.frozen p
      obtain ⟨fq, fq'⟩ := HY.out.frozen q
      have HS' := Lib.hid (show Swr xs (swp ys p q) a b (k + 1) by rw [hp, hq]; exact HS.out.step (by omega) (by rw [HN.out]; omega))
      have HY' := Lib.hid (HY.out.swp p q (by omega) (by omega))
      have HO' := Lib.hid (HO.out.swp4 p q (ge ys p) (ge ys q))
      have hpq : p ≠ q := by omega
      generalize ge ys p = u at *
      generalize ge ys q = v at *
      clear hp hq hyl
      go_wp2
      go_region
      all_goals go_wp2
      go_roundw
      case rel => exact ⟨k + 1, swp ys p q, by omega, by go_num, HS', Lib.hid (Dat.drew HY'.out), Lib.hid (On.drew HO'.out)⟩
      case measure => simp [intOf]; omega
    · obtain rfl : k = n := by omega
      go_wp2
      go_end0
      exact ⟨rfl, ys, HS.out, HY.out, HO.out⟩

end Go.Proofs.Ytphkckonnogjmaa
