/- Slices of integers that a callee turns in place; the walks of swapRangeCmpFunc and rotateCmpFunc at int. -/
import Derived.Test.YtbjfmhncpfhdmaaInts
import Derived.Test.YtbjfmhncpfhdmaaPlainV
namespace Go.Proofs.Ytbjfmhncpfhdmaa
open Go.ChangeShapes Go.WideShapes Go.ChangeAt Go.RowKit Stb
set_option linter.unusedVariables false

/-- all but the block g is as it was; the rest may have grown -/
structure On (g : Nat) (w w' : World) : Prop where
  os : w'.os = w.os
  tape : w'.tape = w.tape
  output : w'.output = w.output
  size : w.heap.size ≤ w'.heap.size
  block : ∀ k, k ≠ g → k < w.heap.size → w'.heap[k]? = w.heap[k]?
theorem On.refl (g : Nat) (w : World) : On g w w := ⟨rfl, rfl, rfl, Nat.le_refl _, fun _ _ _ => rfl⟩
theorem On.trans {g : Nat} {a b c : World} (h : On g a b) (k : On g b c) : On g a c :=
  ⟨k.os.trans h.os, k.tape.trans h.tape, k.output.trans h.output, Nat.le_trans h.size k.size, fun i hi hl => (k.block i hi (Nat.lt_of_lt_of_le hl h.size)).trans (h.block i hi hl)⟩
theorem On.of_mor {g : Nat} {w w' : World} (h : Mor w w') : On g w w' := by
  have b := h.below
  exact ⟨b.os, b.tape, b.output, b.size, fun k _ hl => b.block k hl⟩
theorem On.setCell {g i : Nat} {w w' : World} (h : On g w w') (u : Value) : On g w (w'.setCell ⟨g, i, none⟩ u) :=
  ⟨h.os, h.tape, h.output, by show _ ≤ (w'.setCell _ _).heap.size; simpa [World.setCell] using h.size, fun k hk hl => (Below.heap_setCell _ _ _ _ hk).trans (h.block k hk hl)⟩
theorem On.drew {g : Nat} {w w' : World} (h : On g w w') : On g w w'.drew := ⟨h.os, h.tape, h.output, h.size, h.block⟩
theorem On.drewN {g n : Nat} {w w' : World} (h : On g w w') : On g w (w'.drewN n) := ⟨h.os, h.tape, h.output, h.size, h.block⟩
theorem On.below {g : Nat} {w w' : World} (h : On g w w') (hg : w.heap.size ≤ g) : Below w.heap.size w w' :=
  ⟨h.os, h.tape, h.output, h.size, fun k hk => h.block k (by omega) hk⟩
theorem On.blk {g : Nat} {w w' : World} {b : Nat} {t : TypeId} {cs : Array Value} (h : On g w w') (hb : Blk w b t cs) (hne : b ≠ g) : Blk w' b t cs := (h.block b hne hb.lt).trans hb
theorem On.of_below {g B : Nat} {w w' : World} (h : Below B w w') (hg : g < B) (h2 : ∀ k, k ≠ g → k < w.heap.size → w'.heap[k]? = w.heap[k]?) : On g w w' := ⟨h.os, h.tape, h.output, h.size, h2⟩

/-- the block g begins with the integers xs -/
def Dat (w : World) (g : Nat) (xs : List Int) : Prop := ∃ T cur, Blk w g T cur ∧ CurR cur xs
theorem Dat.cell {w : World} {g : Nat} {xs : List Int} (h : Dat w g xs) (i : Nat) (hi : i < xs.length) : w.cell? ⟨g, i, none⟩ = some (.int .i64 (ge xs i)) := by
  obtain ⟨T, cur, hb, hc⟩ := h
  rw [hb.cell]; exact hc i hi
theorem Dat.frozen {w : World} {g : Nat} {xs : List Int} (h : Dat w g xs) (i : Nat) : w.frozen? ⟨g, i, none⟩ = false := by
  obtain ⟨T, cur, hb, hc⟩ := h
  exact hb.frozen i
theorem Dat.swp {w : World} {g : Nat} {xs : List Int} (h : Dat w g xs) (i j : Nat) : Dat ((w.setCell ⟨g, i, none⟩ (.int .i64 (ge xs j))).setCell ⟨g, j, none⟩ (.int .i64 (ge xs i))) g (swp xs i j) := by
  obtain ⟨T, cur, hb, hc⟩ := h
  exact ⟨T, _, (hb.set_ i _).set_ j _, (hc.set i _).set j _⟩
theorem Dat.drewN {w : World} {g n : Nat} {xs : List Int} (h : Dat w g xs) : Dat (w.drewN n) g xs := h
theorem Dat.drew {w : World} {g : Nat} {xs : List Int} (h : Dat w g xs) : Dat w.drew g xs := h
theorem Dat.lt {w : World} {g : Nat} {xs : List Int} (h : Dat w g xs) : g < w.heap.size := by
  obtain ⟨T, cur, hb, hc⟩ := h
  exact hb.lt
theorem Dat.mor {w w' : World} {g : Nat} {xs : List Int} (h : Dat w g xs) (hm : Mor w w') : Dat w' g xs := by
  obtain ⟨T, cur, hb, hc⟩ := h
  exact ⟨T, cur, hb.below hm.below hb.lt, hc⟩
/-- a callee turned the integers of the block g to some that are as R says -/
def ModPost (w : World) (g : Nat) (R : List Int → Prop) (e : Ending) (w' : World) : Prop :=
  e = .returned (.tuple #[]) ∧ ∃ ys, R ys ∧ Dat w' g ys ∧ On g w w'

set_option maxRecDepth 100000 in
set_option maxHeartbeats 3200000 in
theorem swr_any (g N cap a b n : Nat) (cv : Value) (xs : List Int) (w : World) (hd : Dat w g xs) (hN : xs.length = N) (hl : N ≤ 1000) (h1 : a + n ≤ b) (h2 : b + n ≤ N) :
    Calls Try.prog 58 #[.slice (some ⟨g, 0, none⟩) N cap, .int .i64 a, .int .i64 b, .int .i64 n, cv] w (ModPost w g (fun ys => Swr xs ys a b n)) := by
  have HD := Lib.hid hd
  have HN := Lib.hid hN
  clear hd hN
  go_enter Try.func58, Try.ntmps58
  go_wp2
  go_loopw [10] (fun i wr => ∃ (k : Nat) (ys : List Int), k ≤ n ∧ i = .int .i64 k ∧ Hid (Swr xs ys a b k) ∧ Hid (Dat wr g ys) ∧ Hid (On g w wr)) (fun i _ => n - (intOf i).toNat)
  case atStart => exact ⟨0, xs, Nat.zero_le _, rfl, Lib.hid (Swr.zero _ _ _), HD, Lib.hid (On.refl _ _)⟩
  case round =>
    obtain ⟨k, ys, hk, rfl, HS, HY, HO⟩ := hrel
    by_cases hlt : k < n
    · have hki : (k : Int) < (n : Int) := by omega
      obtain ⟨p, hp⟩ : ∃ p, p = a + k := ⟨_, rfl⟩
      obtain ⟨q, hq⟩ : ∃ q, q = b + k := ⟨_, rfl⟩
      have e1 : (a : Int) + (k : Int) = (p : Int) := by omega
      have e2 : (b : Int) + (k : Int) = (q : Int) := by omega
      have p0 : (0 : Int) ≤ (p : Int) := by omega
      have q0 : (0 : Int) ≤ (q : Int) := by omega
      have pN : (p : Int) < (N : Int) := by omega
      have qN : (q : Int) < (N : Int) := by omega
      have hyl : ys.length = N := by rw [HS.out.len, HN.out]
      have cp := HY.out.cell p (by omega)
      have cq := HY.out.cell q (by omega)
      have fp := HY.out.frozen p
      have fq := HY.out.frozen q
      have HS' := Lib.hid (show Swr xs (swp ys p q) a b (k + 1) by rw [hp, hq]; exact HS.out.step (by omega) (by rw [HN.out]; omega))
      have HY' := Lib.hid (HY.out.swp p q)
      have HO' := Lib.hid ((HO.out.setCell (i := p) (.int .i64 (ge ys q))).setCell (i := q) (.int .i64 (ge ys p)))
      have hpq : p ≠ q := by omega
      generalize ge ys p = u at *
      generalize ge ys q = v at *
      clear hp hq hyl
      go_wp2
      go_region
      all_goals go_wp2
      go_roundw
      case rel => exact ⟨k + 1, swp ys p q, by omega, by go_num, HS', Lib.hid (Dat.drew HY'.out), Lib.hid (On.drew HO'.out)⟩
      case measure => simp [intOf]; omega
    · obtain rfl : k = n := by omega
      go_wp2
      go_end0
      exact ⟨rfl, ys, HS.out, HY.out, HO.out⟩

end Go.Proofs.Ytbjfmhncpfhdmaa
