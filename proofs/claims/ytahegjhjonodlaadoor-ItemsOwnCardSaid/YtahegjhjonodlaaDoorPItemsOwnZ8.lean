/- The walk of stock.look; the shelf. -/
import Derived.Test.YtahegjhjonodlaaDoorPItemsOwnZ1
import Derived.Test.YtahegjhjonodlaaDoorPItemsOwnZ2
import Derived.Test.YtahegjhjonodlaaDoorPItemsOwnZ3
import Derived.Test.YtahegjhjonodlaaDoorPItemsOwnZ4
import Derived.Test.YtahegjhjonodlaaDoorPItemsOwnZ5
import Derived.Test.YtahegjhjonodlaaDoorPItemsOwnZ6
import Derived.Test.YtahegjhjonodlaaDoorPItemsOwnZ7
import Derived.Test.YtahegjhjonodlaaDoorRows
import Derived.ArgAppend
import Derived.BigQuiet
import Derived.DataElems
import Derived.Deep.OwnRows
import Derived.Deep.QuietTactic
import Derived.Deep.SlicePairs
import Derived.Handy
import Derived.Lib.Hide
import Derived.OpenShut
import Derived.Outline
import Derived.OwnWalk
import Derived.ProofKit
import Derived.RegionTactic
import Derived.WalkKit
namespace Go.Proofs.YtahegjhjonodlaaDoor
open Go.ChangeShapes Go.WideShapes Go.ChangeAt Go.RowKit Stb
set_option linter.unusedVariables false
set_option maxRecDepth 100000

theorem Pi.cells {w : World} {A : Option Addr} {xs : List Pr} (h : Pi w A xs) (i : Nat) (hi : i < xs.length) :
    ∃ x, A = some x ∧ x.block < w.heap.size ∧ w.cell? (x.add (i * 2)) = some (.int .i64 (ge xs i).1) ∧ w.cell? ⟨(x.add (i * 2)).block, (x.add (i * 2)).off + 1, none⟩ = some (.int .i64 (ge xs i).2) := h.at_ i hi

set_option maxRecDepth 100000 in
set_option maxHeartbeats 3200000 in
theorem slook_any (A : Option Addr) (n cap : Nat) (xs : List Pr) (w : World) (hr : Pi w A xs) (hn : xs.length = n) (hml : n ≤ maxLen) :
    Calls Tryd.prog 68 #[.slice A n cap] w fun e w' => e = .returned (.int .i64 (mvc xs)) ∧ Mor w w' := by
  unfold maxLen at hml
  have HR := Lib.hid hr
  have HN := Lib.hid hn
  clear hr
  by_cases h12 : 40 < n
  · have HL := Lib.hid (show mvc xs = 2 by unfold mvc; rw [hn, if_pos h12])
    clear hn
    go_enter Tryd.func68, Tryd.ntmps68
    go_wp2
    go_ret
    exact ⟨by rw [HL.out] <;> rfl, Mor.refl _⟩
  · have HL := Lib.hid (show mvc xs = mvUp xs n by unfold mvc; rw [hn, if_neg h12])
    have h12' : n ≤ 40 := by omega
    clear hn h12
    go_enter Tryd.func68, Tryd.ntmps68
    go_wp2
    go_loopw [10] (fun i wr => ∃ k : Nat, k ≤ n ∧ i = .int .i64 k ∧ Hid (mvUp xs k = 0) ∧ Hid (Mor w wr)) (fun i _ => n - (intOf i).toNat)
    case atStart => exact ⟨0, Nat.zero_le _, rfl, Lib.hid rfl, Lib.hid (Mor.refl _)⟩
    case round =>
      obtain ⟨k, hk, rfl, HU, HM⟩ := hrel
      by_cases hlt : k < n
      · have hki : (k : Int) < (n : Int) := by omega
        have hk0 : (0 : Int) ≤ (k : Int) := by omega
        obtain ⟨x, hA, hxb, c1, c2⟩ := (HR.out.mor HM.out).cells k (by have := HN.out; omega)
        subst hA
        have HBad := Lib.hid (fun h : mvAt (ge xs k) ≠ 0 => show mvc xs = mvAt (ge xs k) by rw [HL.out, mvUp_bad HU.out h hlt])
        have HOk := Lib.hid (fun h : mvAt (ge xs k) = 0 => show mvUp xs (k + 1) = 0 from mvUp_ok HU.out h)
        have HAt := Lib.hid (show mvAt (ge xs k) = if (ge xs k).1 = 0 ∨ (ge xs k).1 < -1000000 ∨ 1000000 < (ge xs k).1 ∨ (ge xs k).2 < 0 ∨ 1000000000000 < (ge xs k).2 then 1 else if (ge xs k).1 < 0 ∧ (ge xs k).2 ≠ 0 then 3 else 0 from rfl)
        generalize mvAt (ge xs k) = q at *
        generalize (ge xs k).1 = d at *
        generalize (ge xs k).2 = a at *
        by_cases h1 : d = 0 ∨ d < -1000000 ∨ 1000000 < d ∨ a < 0 ∨ 1000000000000 < a
        · have HF := Lib.hid (HBad.out (by rw [HAt.out, if_pos h1]; decide))
          rw [HAt.out, if_pos h1] at HF
          have h1' : d = 0 ∨ (d ≠ 0 ∧ d < -1000000) ∨ (d ≠ 0 ∧ ¬ d < -1000000 ∧ 1000000 < d) ∨ (d ≠ 0 ∧ ¬ d < -1000000 ∧ ¬ 1000000 < d ∧ a < 0) ∨ (d ≠ 0 ∧ ¬ d < -1000000 ∧ ¬ 1000000 < d ∧ ¬ a < 0 ∧ 1000000000000 < a) := by omega
          clear h1 HAt HBad HOk
          rcases h1' with rfl | ⟨g1, g2⟩ | ⟨g1, g2, g3⟩ | ⟨g1, g2, g3, g4⟩ | ⟨g1, g2, g3, g4, g5⟩
          all_goals
            try (have b1 : (d == 0) = false := by simpa using g1)
            go_wp2
            go_ret
            exact ⟨by rw [HF.out] <;> rfl, HM.out.alloc⟩
        · by_cases h2 : d < 0 ∧ a ≠ 0
          · have HF := Lib.hid (HBad.out (by rw [HAt.out, if_neg h1, if_pos h2]; decide))
            rw [HAt.out, if_neg h1, if_pos h2] at HF
            obtain ⟨h3, h4⟩ := h2
            obtain ⟨g1, g2, g3, g4, g5⟩ : d ≠ 0 ∧ ¬ d < -1000000 ∧ ¬ 1000000 < d ∧ ¬ a < 0 ∧ ¬ 1000000000000 < a := by omega
            have b1 : (d == 0) = false := by simpa using g1
            have b2 : (a == 0) = false := by simpa using h4
            clear h1 HAt HBad HOk
            go_wp2
            go_ret
            exact ⟨by rw [HF.out] <;> rfl, HM.out.alloc⟩
          · have HG := Lib.hid (HOk.out (by rw [HAt.out, if_neg h1, if_neg h2]))
            obtain ⟨g1, g2, g3, g4, g5⟩ : d ≠ 0 ∧ ¬ d < -1000000 ∧ ¬ 1000000 < d ∧ ¬ a < 0 ∧ ¬ 1000000000000 < a := by omega
            have b1 : (d == 0) = false := by simpa using g1
            by_cases h3 : d < 0
            · have h4 : a = 0 := by omega
              subst h4
              clear h1 h2 HAt HBad HOk
              go_wp2
              exact ⟨⟨k + 1, by omega, by go_num, HG, Lib.hid HM.out.alloc⟩, by simp [intOf]; omega⟩
            · clear h1 h2 HAt HBad HOk
              go_wp2
              exact ⟨⟨k + 1, by omega, by go_num, HG, Lib.hid HM.out.alloc⟩, by simp [intOf]; omega⟩
      · obtain rfl : k = n := by omega
        have HF := Lib.hid (show mvc xs = 0 by rw [HL.out, HU.out])
        go_wp2
        go_ret
        exact ⟨by rw [HF.out] <;> rfl, HM.out⟩

/-- the shelf: a slice of lots that the call owns, wherever in its block it begins -/
def Sh (w : World) (base : Nat) (v : Value) (xs : List Pr) : Prop :=
  (v = .slice none 0 0 ∧ xs = []) ∨ ∃ g o cap cur, v = .slice (some ⟨g, o, none⟩) xs.length cap ∧ base ≤ g ∧ w.heap[g]? = some (.cells cur 63 (0, 0)) ∧ xs.length ≤ cap ∧ cap ≤ maxLen ∧ o + cap * 2 ≤ cur.size ∧
    ∀ i, i < xs.length → cur[o + i * 2]? = some (.int .i64 (ge xs i).1) ∧ cur[o + i * 2 + 1]? = some (.int .i64 (ge xs i).2)
theorem Sh.nil (w : World) (base : Nat) : Sh w base (.slice none 0 0) [] := .inl ⟨rfl, rfl⟩
theorem Sh.len {w : World} {base : Nat} {v : Value} {xs : List Pr} (h : Sh w base v xs) : ∃ A c, v = .slice A xs.length c := by
  rcases h with ⟨rfl, rfl⟩ | ⟨g, o, cap, cur, rfl, _⟩
  · exact ⟨none, 0, rfl⟩
  · exact ⟨_, _, rfl⟩
/-- all but the shelf's variable and blocks of lots from base on is as it was -/
structure Tk (w w' : World) (bS base : Nat) : Prop where
  os : w'.os = w.os
  tape : w'.tape = w.tape
  output : w'.output = w.output
  size : w.heap.size ≤ w'.heap.size
  block : ∀ k, k < w.heap.size → k ≠ bS → (k < base ∨ ∀ cur fz, w.heap[k]? ≠ some (.cells cur 63 fz)) → w'.heap[k]? = w.heap[k]?
  lots : ∀ k cur fz, k < w.heap.size → k ≠ bS → w'.heap[k]? = some (.cells cur 63 fz) → k < base ∨ ∃ cur' fz', w.heap[k]? = some (.cells cur' 63 fz')
theorem Tk.refl (w : World) (bS base : Nat) : Tk w w bS base := ⟨rfl, rfl, rfl, Nat.le_refl _, fun _ _ _ _ => rfl, fun k cur fz _ _ h => .inr ⟨cur, fz, h⟩⟩
theorem Tk.trans {a b c : World} {bS base : Nat} (h : Tk a b bS base) (k : Tk b c bS base) : Tk a c bS base := by
  refine ⟨k.os.trans h.os, k.tape.trans h.tape, k.output.trans h.output, Nat.le_trans h.size k.size, fun i hi hn hc => ?_, fun i cur fz hi hn hc => ?_⟩
  · have h1 := h.block i hi hn hc
    refine (k.block i (Nat.lt_of_lt_of_le hi h.size) hn ?_).trans h1
    rcases hc with hc | hc
    · exact .inl hc
    · exact .inr fun cur fz => by rw [h1]; exact hc cur fz
  · rcases k.lots i cur fz (Nat.lt_of_lt_of_le hi h.size) hn hc with h1 | ⟨cur', fz', h1⟩
    · exact .inl h1
    · exact h.lots i cur' fz' hi hn h1
theorem Tk.below {w w' : World} {bS base n : Nat} (h : Tk w w' bS base) (h1 : n ≤ bS) (h2 : n ≤ base) (h3 : n ≤ w.heap.size) : ∀ k, k < n → w'.heap[k]? = w.heap[k]? :=
  fun k hk => h.block k (by omega) (by omega) (.inl (by omega))
theorem Tk.drewN {w w' : World} {bS base n : Nat} (h : Tk w w' bS base) : Tk w (w'.drewN n) bS base := ⟨h.os, h.tape, h.output, h.size, h.block, h.lots⟩
theorem Tk.drew {w w' : World} {bS base : Nat} (h : Tk w w' bS base) : Tk w w'.drew bS base := ⟨h.os, h.tape, h.output, h.size, h.block, h.lots⟩
theorem heap_set_same (w : World) (g o : Nat) (u : Value) {cur : Array Value} {T : TypeId} (h : w.heap[g]? = some (.cells cur T (0, 0))) : (w.setCell ⟨g, o, none⟩ u).heap[g]? = some (.cells (cur.setIfInBounds o u) T (0, 0)) :=
  (show Blk w g T cur from h).set_ o u
theorem Tk.setVar {w w' : World} {bS base o : Nat} {u : Value} (h : Tk w w' bS base) : Tk w (w'.setCell ⟨bS, o, none⟩ u) bS base :=
  ⟨h.os, h.tape, h.output, by rw [show (w'.setCell ⟨bS, o, none⟩ u).heap.size = w'.heap.size by simp [World.setCell]]; exact h.size,
    fun k hk hn hc => (Below.heap_setCell _ _ _ _ hn).trans (h.block k hk hn hc), fun k cur fz hk hn hc => h.lots k cur fz hk hn (by rw [Below.heap_setCell _ _ _ _ hn] at hc; exact hc)⟩
theorem Tk.setLot {w w' : World} {bS base g o : Nat} {u : Value} {cur : Array Value} (h : Tk w w' bS base) (hg : w'.heap[g]? = some (.cells cur 63 (0, 0))) (hb : base ≤ g) : Tk w (w'.setCell ⟨g, o, none⟩ u) bS base := by
  refine ⟨h.os, h.tape, h.output, by rw [show (w'.setCell ⟨g, o, none⟩ u).heap.size = w'.heap.size by simp [World.setCell]]; exact h.size, fun k hk hn hc => ?_, fun k cur' fz hk hn hc => ?_⟩
  · by_cases e : k = g
    · subst e
      rcases hc with hc | hc
      · omega
      · exfalso
        rcases h.lots k cur _ hk hn hg with h1 | ⟨c', f', h1⟩
        · omega
        · exact hc _ _ h1
    · exact (Below.heap_setCell _ _ _ _ e).trans (h.block k hk hn hc)
  · by_cases e : k = g
    · subst e
      exact h.lots k cur _ hk hn hg
    · rw [Below.heap_setCell _ _ _ _ e] at hc
      exact h.lots k cur' fz hk hn hc

/-- what the shelf's pieces know of the first lot -/
theorem Sh.head {w : World} {base : Nat} {v : Value} {p : Pr} {r : List Pr} (h : Sh w base v (p :: r)) :
    ∃ g o cap cur, v = .slice (some ⟨g, o, none⟩) (r.length + 1) cap ∧ base ≤ g ∧ w.heap[g]? = some (.cells cur 63 (0, 0)) ∧ r.length + 1 ≤ cap ∧ cap ≤ maxLen ∧
      w.cell? ⟨g, o, none⟩ = some (.int .i64 p.1) ∧ w.cell? ⟨g, o + 1, none⟩ = some (.int .i64 p.2) ∧ w.frozen? ⟨g, o, none⟩ = false ∧ w.frozen? ⟨g, o + 1, none⟩ = false ∧
      (∀ w', w'.heap[g]? = some (.cells cur 63 (0, 0)) → Sh w' base (.slice (some (if cap = 1 then ⟨g, o, none⟩ else ⟨g, o + 2, none⟩)) r.length (cap - 1)) r) ∧
      (∀ w' a b, w'.heap[g]? = some (.cells ((cur.setIfInBounds o (.int .i64 a)).setIfInBounds (o + 1) (.int .i64 b)) 63 (0, 0)) → Sh w' base v ((a, b) :: r)) := by
  rcases h with ⟨_, h⟩ | ⟨g, o, cap, cur, rfl, hb, hg, hl, hm, hs, hc⟩
  · cases h
  · rw [List.length_cons] at hl
    obtain ⟨c1, c2⟩ := hc 0 (by simp)
    rw [show ge (p :: r) 0 = p from rfl, Nat.zero_mul, Nat.add_zero] at c1 c2
    have hB : Blk w g 63 cur := hg
    refine ⟨g, o, cap, cur, rfl, hb, hg, hl, hm, by rw [hB.cell]; exact c1, by rw [hB.cell]; exact c2, hB.frozen _, hB.frozen _, fun w' hw => ?_, fun w' a b hw => ?_⟩
    · have hr : ∀ i, i < r.length → cur[o + 2 + i * 2]? = some (.int .i64 (ge r i).1) ∧ cur[o + 2 + i * 2 + 1]? = some (.int .i64 (ge r i).2) := fun i hi => by
        have := hc (i + 1) (by simp; omega)
        rw [show ge (p :: r) (i + 1) = ge r i by unfold ge; simp] at this
        rw [show o + 2 + i * 2 = o + (i + 1) * 2 by omega]
        exact this
      by_cases e : cap = 1
      · subst e
        have hr0 : r.length = 0 := by omega
        rw [if_pos rfl]
        refine .inr ⟨g, o, 0, cur, ?_, hb, hw, by omega, by unfold maxLen; omega, by omega, fun i hi => by omega⟩
        rfl
      · rw [if_neg e]
        exact .inr ⟨g, o + 2, cap - 1, cur, rfl, hb, hw, by omega, by omega, by omega, hr⟩
    · refine .inr ⟨g, o, cap, _, by rw [List.length_cons, List.length_cons], hb, hw, by rw [List.length_cons]; exact hl, hm, by rw [Array.size_setIfInBounds, Array.size_setIfInBounds]; exact hs, fun i hi => ?_⟩
      have hlt : o + i * 2 + 1 < cur.size := by rw [List.length_cons] at hi; omega
      rw [Array.getElem?_setIfInBounds, Array.getElem?_setIfInBounds, Array.getElem?_setIfInBounds, Array.getElem?_setIfInBounds, Array.size_setIfInBounds]
      cases i with
      | zero =>
        rw [if_neg (by omega), if_pos (by omega), if_pos (by omega), if_pos (by omega), if_pos (by omega)]
        exact ⟨rfl, rfl⟩
      | succ i =>
        have := hc (i + 1) (by simpa using hi)
        rw [show ge (p :: r) (i + 1) = ge ((a, b) :: r) (i + 1) by unfold ge; simp] at this
        rw [if_neg (by omega), if_neg (by omega), if_neg (by omega), if_neg (by omega)]
        exact this

end Go.Proofs.YtahegjhjonodlaaDoor
