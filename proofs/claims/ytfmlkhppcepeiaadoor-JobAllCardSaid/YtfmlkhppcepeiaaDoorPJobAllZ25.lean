/- The walks of talref.Same, talref.SameBook (of the same), talkeep.plain, day. -/
import Derived.Test.YtfmlkhppcepeiaaDoorPJobAllZ1
import Derived.Test.YtfmlkhppcepeiaaDoorPJobAllZ2
import Derived.Test.YtfmlkhppcepeiaaDoorPJobAllZ3
import Derived.Test.YtfmlkhppcepeiaaDoorPJobAllZ4
import Derived.Test.YtfmlkhppcepeiaaDoorPJobAllZ5
import Derived.Test.YtfmlkhppcepeiaaDoorPJobAllZ6
import Derived.Test.YtfmlkhppcepeiaaDoorPJobAllZ7
import Derived.Test.YtfmlkhppcepeiaaDoorPJobAllZ8
import Derived.Test.YtfmlkhppcepeiaaDoorPJobAllZ9
import Derived.Test.YtfmlkhppcepeiaaDoorPJobAllZ10
import Derived.Test.YtfmlkhppcepeiaaDoorPJobAllZ11
import Derived.Test.YtfmlkhppcepeiaaDoorPJobAllZ13
import Derived.Test.YtfmlkhppcepeiaaDoorPJobAllZ14
import Derived.Test.YtfmlkhppcepeiaaDoorPJobAllZ20
import Derived.Test.YtfmlkhppcepeiaaDoorPJobAllZ21
import Derived.Test.YtfmlkhppcepeiaaDoorPJobAllZ22
import Derived.Test.YtfmlkhppcepeiaaDoorPJobAllZ23
import Derived.Test.YtfmlkhppcepeiaaDoorPJobAllZ24
import Derived.Test.YtfmlkhppcepeiaaDoorRows
import Derived.BigQuiet
import Derived.BigRegion
import Derived.Carry
import Derived.DataElems
import Derived.Deep.DeepCutAuto
import Derived.Deep.LoopGhost
import Derived.Deep.QuietTactic
import Derived.Deep.RegionHeld3
import Derived.Deep.RegionLaw
import Derived.Deep.RegionWith
import Derived.Deep.SlicePairs
import Derived.Deep.Slices
import Derived.Deep.Strs
import Derived.Handy
import Derived.Laws.CopyOwn
import Derived.Laws.CopyRow
import Derived.Laws.Cover1
import Derived.Laws.Externs
import Derived.Laws.NewBlocks
import Derived.Lib.AppendZerosOnto
import Derived.Lib.Bytealg
import Derived.Lib.Hide
import Derived.Lib.Overlaps
import Derived.Lib.SliceRun
import Derived.Lib.Walk
import Derived.Maps.Own
import Derived.Maps.OwnSet
import Derived.Maps.Views
import Derived.OpenShut
import Derived.Outline
import Derived.OwnWalk
import Derived.PlainAid
import Derived.ProofKit
import Derived.RegionTactic
import Derived.Shelf.Abstract
import Derived.Shelf.RegionOpenPlain
import Derived.Sort.Walk0
import Derived.StringKeys
import Derived.WalkKit
import Derived.WalkSpells
namespace Go.Proofs.YtfmlkhppcepeiaaDoor
open Go.ChangeShapes Go.WideShapes Go.ChangeAt Go.RowKit Go.PlainAid
set_option linter.unusedVariables false

set_option maxHeartbeats 1600000 in
theorem rsame_any (x y : En) (A A' : Option Addr) (n c n' c' : Nat) (w : World) (hx : Lq w A n c x.ls) (hy : Lq w A' n' c' y.ls) :
    Calls Tryd.prog 11 #[.agg #[.string x.key, .int .i64 x.day, .slice A n c], .agg #[.string y.key, .int .i64 y.day, .slice A' n' c']] w fun e w' => e = .returned (.bool (decide (x = y))) ∧ Mor w w' := by
  have HE := Lib.hid (fun w' (h : Mor w w') => equal_dec A A' n c n' c' x.ls y.ls w' (hx.si.mor h) (hy.si.mor h) hx.length hy.length (Nat.le_trans hx.le hx.max))
  have HD := Lib.hid (en_eq x y)
  clear hx hy
  generalize decide (x = y) = r at *
  generalize decide (x.ls = y.ls) = b at *
  generalize x.key = s at *
  generalize y.key = t at *
  generalize x.day = d at *
  generalize y.day = d' at *
  by_cases h1 : s = t
  · subst h1
    by_cases h2 : d = d'
    · subst h2
      go_enter Tryd.func11, Tryd.ntmps11
      go_wp2_with ((go_at_call 26; (with_reducible refine (HE.out _ ((Mor.refl _).alloc.alloc)).mono ?_); rintro e w1 ⟨rfl, m, rfl⟩))
      go_ret
      exact ⟨by rw [HD.out] <;> simp, (Mor.refl _).alloc.alloc.drewN⟩
    · have hd : (d == d') = false := by simpa using h2
      go_enter Tryd.func11, Tryd.ntmps11
      go_wp2_with fail
      go_ret
      exact ⟨by rw [HD.out] <;> simp [h2], (Mor.refl _).alloc.alloc⟩
  · have hst : (s.toList == t.toList) = false := by rw [str_eq]; exact decide_eq_false h1
    go_enter Tryd.func11, Tryd.ntmps11
    go_wp2_with fail
    go_ret
    exact ⟨by rw [HD.out] <;> simp [h1], (Mor.refl _).alloc.alloc⟩

set_option maxHeartbeats 400000 in
theorem day_any (k : Int) (w : World) :
    Calls Tryd.prog 8 #[.int .i64 k] w fun e w' => e = .returned (.int .i64 (wi k 292194)) ∧ w = w' := by
  have HW := Lib.hid (fun w => within_any k 292194 w (by omega) (by omega))
  generalize wi k 292194 = r at *
  go_enter Tryd.func8, Tryd.ntmps8
  go_wp2_with (go_at_call 24; (with_reducible refine (HW.out _).mono ?_); rintro e w6 ⟨rfl, rfl⟩)
  go_ret
  exact ⟨rfl, rfl⟩

abbrev s50 : ByteArray := { data := #[53, 48] }
end Go.Proofs.YtfmlkhppcepeiaaDoor

/- ContainsFunc at entries; what balances say, plainly. -/
namespace Go.Proofs.YtfmlkhppcepeiaaDoor
open Go.ChangeShapes Go.WideShapes Go.ChangeAt Go.RowKit Go.PlainAid
set_option linter.unusedVariables false

theorem fidx_any (p : Nat → Bool) (n : Nat) : decide (0 ≤ fidx p 0 n) = (List.range n).any p := by
  rcases fidx_spec p n 0 with ⟨e, hn⟩ | ⟨k, e, _, h2, h3, _⟩
  · rw [e]
    have : (List.range n).any p = false := List.any_eq_false.2 fun j hj => by simp [hn j (by omega) (by have := List.mem_range.1 hj; omega)]
    rw [this]; rfl
  · rw [e]
    have : (List.range n).any p = true := List.any_eq_true.2 ⟨k, List.mem_range.2 (by omega), h3⟩
    rw [this]; simp
theorem post_ac (b : Bok) (x : En) : (postb b x).ac = b.ac ∧ (postb b x).shut = b.shut := by
  unfold postb; split <;> exact ⟨rfl, rfl⟩
end Go.Proofs.YtfmlkhppcepeiaaDoor

/- What is posted is found again; stepping over an entry's and a book's variable. -/
namespace Go.Proofs.YtfmlkhppcepeiaaDoor
open Go.ChangeShapes Go.WideShapes Go.ChangeAt Go.RowKit Go.PlainAid
set_option linter.unusedVariables false

theorem find_mem {es : List En} (h : es.Pairwise fun x y => x.key ≠ y.key) {x : En} (hx : x ∈ es) : ∃ i : Nat, i < es.length ∧ findE es x.key = i ∧ ne es i = x := by
  obtain ⟨j, hj, rfl⟩ := List.mem_iff_getElem.1 hx
  rcases findE_cases es es[j].key with ⟨_, hn⟩ | ⟨i, hi, e, hk⟩
  · exact absurd rfl (hn _ (List.getElem_mem hj))
  · refine ⟨i, hi, e, ?_⟩
    rw [ne_eq _ _ hi]
    rcases Nat.lt_trichotomy i j with hlt | hlt | hlt
    · exact absurd hk ((List.pairwise_iff_getElem.1 h) i j hi hj hlt)
    · subst hlt; rfl
    · exact absurd hk.symm ((List.pairwise_iff_getElem.1 h) j i hj hi hlt)
theorem post_again {b : Bok} {x : En} (h : BOk b) (he : enc x = 0) (hx : x ∈ b.en) : postc b x = 0 ∧ postb b x = b := by
  obtain ⟨i, hi, hf, hn⟩ := find_mem h.keys hx
  have h0 : 0 ≤ findE b.en x.key := by rw [hf]; omega
  refine ⟨?_, by unfold postb; rw [if_pos h0]⟩
  unfold postc
  rw [if_neg (by simp [(bookc_iff b).2 h]), if_neg (by simp [he]), if_pos h0, hf, if_pos (by simpa using hn)]
/-- the four facts of a variable of three cells, carried along -/
def C3 (w : World) (g : Nat) (a b c : Value) : Prop := w.cell? ⟨g, 0, none⟩ = some a ∧ w.cell? ⟨g, 1, none⟩ = some b ∧ w.cell? ⟨g, 2, none⟩ = some c ∧ g < w.heap.size
theorem C3.mor {w w' : World} {g : Nat} {a b c : Value} (h : C3 w g a b c) (hm : Mor w w') : C3 w' g a b c :=
  ⟨(hm.below.cell h.2.2.2).trans h.1, (hm.below.cell h.2.2.2).trans h.2.1, (hm.below.cell h.2.2.2).trans h.2.2.1, Nat.lt_of_lt_of_le h.2.2.2 hm.below.size⟩
theorem C3.new (w : World) (a b c : Value) (T : TypeId) : C3 (w.alloc (.cells #[a, b, c] T)) w.heap.size a b c := by
  have hb := Bk.new w T #[a, b, c]
  exact ⟨by rw [hb.cell]; rfl, by rw [hb.cell]; rfl, by rw [hb.cell]; rfl, hb.lt⟩
end Go.Proofs.YtfmlkhppcepeiaaDoor
