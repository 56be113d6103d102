/- Rows that the call made, told apart by their elements' types; a book that the call made. -/
import Derived.Test.YtahegjhjonodlaaDoorPNumbersOwnZ1
import Derived.Test.YtahegjhjonodlaaDoorPNumbersOwnZ3
import Derived.Test.YtahegjhjonodlaaDoorPNumbersOwnZ11
import Derived.Test.YtahegjhjonodlaaDoorPNumbersOwnZ12
import Derived.Test.YtahegjhjonodlaaDoorPNumbersOwnZ13
import Derived.Test.YtahegjhjonodlaaDoorPNumbersOwnZ14
import Derived.Test.YtahegjhjonodlaaDoorPNumbersOwnZ15
import Derived.Test.YtahegjhjonodlaaDoorPNumbersOwnZ16
import Derived.Test.YtahegjhjonodlaaDoorPNumbersOwnZ17
import Derived.Test.YtahegjhjonodlaaDoorRows
import Derived.BigQuiet
import Derived.DataElems
import Derived.Deep.LoopGhost
import Derived.Deep.QuietTactic
import Derived.Deep.SlicePairs
import Derived.Deep.Slices
import Derived.Deep.Strs
import Derived.Handy
import Derived.Laws.Cover1
import Derived.Lib.Bytealg
import Derived.Lib.Hide
import Derived.Lib.SliceRun
import Derived.Lib.Walk
import Derived.OpenShut
import Derived.Outline
import Derived.OwnWalk
import Derived.PlainAid
import Derived.ProofKit
import Derived.RegionTactic
import Derived.Shelf.Abstract
import Derived.Sort.Walk0
import Derived.WalkKit
import Derived.WalkSpells
namespace Go.Proofs.YtahegjhjonodlaaDoor
open Go.ChangeShapes Go.WideShapes Go.ChangeAt Go.RowKit Go.PlainAid
set_option linter.unusedVariables false
set_option maxRecDepth 100000

theorem own_blk {w : World} {B s n : Nat} {T : TypeId} {v : Value} {xs : List Value} (h : w.ownsRow B T s v n xs) {b : Nat} (hb : v.ownBlock = some b) : b < w.heap.size ∧ B ≤ b ∧ ∃ cur, w.heap[b]? = some (.cells cur T (0, 0)) := by
  obtain ⟨_, hh | ⟨g, cap, cur, rfl, hg, hb2, _⟩⟩ := h
  · rw [hh.1] at hb; simp [Value.ownBlock] at hb
  · simp [Value.ownBlock] at hb
    subst hb
    exact ⟨(Array.getElem?_eq_some_iff.1 hb2).1, hg, cur, hb2⟩
/-- another row grows: this one stays -/
theorem own_other {w w' : World} {B s n : Nat} {T : TypeId} {v : Value} {xs : List Value} (h : w.ownsRow B T s v n xs) {b : Nat} {T' : TypeId} {cur : Array Value} (hb : w.heap[b]? = some (.cells cur T' (0, 0))) (hT : T ≠ T') (hg : w.grownBy w' (some b)) : w'.ownsRow B T s v n xs := by
  refine ⟨h.1, ?_⟩
  rcases h.2 with hn | ⟨g, cap, cur2, rfl, hg2, hh, rest⟩
  · exact .inl hn
  · refine .inr ⟨g, cap, cur2, rfl, hg2, (hg.block g (Array.getElem?_eq_some_iff.1 hh).1 ?_).trans hh, rest⟩
    intro e
    injection e with e
    subst e
    rw [hh] at hb
    injection hb with hb
    injection hb with _ hb _
    exact hT hb
theorem own_kept {w w' : World} {B s n : Nat} {T : TypeId} {v : Value} {xs : List Value} (h : w.ownsRow B T s v n xs) (hg : w.grownBy w' none) : w'.ownsRow B T s v n xs := by
  refine ⟨h.1, ?_⟩
  rcases h.2 with hn | ⟨g, cap, cur2, rfl, hg2, hh, rest⟩
  · exact .inl hn
  · exact .inr ⟨g, cap, cur2, rfl, hg2, (hg.block g (Array.getElem?_eq_some_iff.1 hh).1 (by simp)).trans hh, rest⟩
theorem grown_mor {w w' : World} (h : Mor w w') (r : Option Nat) : w.grownBy w' r := ⟨h.below.os, h.below.tape, h.below.output, h.below.size, fun k hk _ => h.below.block k hk⟩
theorem own_mor {w w' : World} {B s n : Nat} {T : TypeId} {v : Value} {xs : List Value} (h : w.ownsRow B T s v n xs) (hm : Mor w w') : w'.ownsRow B T s v n xs := own_kept h (grown_mor hm none)
theorem own_base {w : World} {B B' s n : Nat} {T : TypeId} {u : Value} {ys : List Value} (h : w.ownsRow B T s u n ys) (hB : B' ≤ B) : w.ownsRow B' T s u n ys := by
  refine ⟨h.1, ?_⟩
  rcases h.2 with hn | ⟨g, cap, cur, rfl, hg, rest⟩
  · exact .inl hn
  · exact .inr ⟨g, cap, cur, rfl, Nat.le_trans hB hg, rest⟩
/-- a row's own shape -/
theorem own_lq {w : World} {B n : Nat} {T : TypeId} {v : Value} {xs : List Ln} (h : w.ownsRow B T 2 v n (flat pc xs)) (hl : xs.length = n) (hs : ∀ i, i < n → (cd xs i).size ≤ maxLen) :
    ∃ A c, v = .slice A n c ∧ Lq w A n c xs := by
  have hr := h
  obtain ⟨hlen, hh | ⟨g, cap, cur, rfl, hg, hb, h1, h2, h3, h4⟩⟩ := h
  · obtain ⟨rfl, rfl⟩ := hh
    exact ⟨none, 0, rfl, Si.of_rd (Rd.own hr), hl, Nat.le_refl _, by unfold maxLen; omega, fun _ => rfl, hs⟩
  · exact ⟨_, cap, rfl, Si.of_rd (Rd.own hr), hl, h1, h2, (fun h => by cases h), hs⟩

/-- an entry's cells -/
structure Ev where
  key : ByteArray
  day : Int
  A : Option Addr
  n : Nat
  c : Nat
def ec (q : Ev) : List Value := [.string q.key, .int .i64 q.day, .slice q.A q.n q.c]
theorem ec_len (q : Ev) : (ec q).length = 3 := rfl
def ev0 : Ev := ⟨ByteArray.empty, 0, none, 0, 0⟩
def qe (qs : List Ev) (i : Nat) : Ev := qs.getD i ev0
theorem qe_eq (qs : List Ev) (i : Nat) (h : i < qs.length) : qe qs i = qs[i] := by
  unfold qe; rw [List.getD_eq_getElem?_getD, List.getElem?_eq_getElem h]; rfl
/-- an entry that the call made -/
structure OwnE (w : World) (base : Nat) (q : Ev) (x : En) : Prop where
  key : q.key = x.key
  day : q.day = x.day
  row : w.ownsRow base 87 2 (.slice q.A q.n q.c) q.n (flat pc x.ls)
  len : x.ls.length = q.n
  ks : x.key.size ≤ maxLen
  str : ∀ i, i < q.n → (cd x.ls i).size ≤ maxLen
theorem OwnE.mor {w w' : World} {base : Nat} {q : Ev} {x : En} (h : OwnE w base q x) (hm : Mor w w') : OwnE w' base q x := ⟨h.key, h.day, own_mor h.row hm, h.len, h.ks, h.str⟩
theorem OwnE.lq {w : World} {base : Nat} {q : Ev} {x : En} (h : OwnE w base q x) : Lq w q.A q.n q.c x.ls := by
  obtain ⟨A, c, e, hl⟩ := own_lq h.row h.len h.str
  injection e with e1 _ e3
  rw [e1, e3]; exact hl
/-- entries that the call made -/
structure OwnEs (w : World) (base : Nat) (v : Value) (m : Nat) (qs : List Ev) (es : List En) : Prop where
  row : w.ownsRow base 84 3 v m (flat ec qs)
  ql : qs.length = m
  el : es.length = m
  ent : ∀ i, i < m → OwnE w base (qe qs i) (ne es i)
theorem OwnEs.mor {w w' : World} {base : Nat} {v : Value} {m : Nat} {qs : List Ev} {es : List En} (h : OwnEs w base v m qs es) (hm : Mor w w') : OwnEs w' base v m qs es :=
  ⟨own_mor h.row hm, h.ql, h.el, fun i hi => (h.ent i hi).mor hm⟩
theorem OwnEs.shape {w : World} {base : Nat} {v : Value} {m : Nat} {qs : List Ev} {es : List En} (h : OwnEs w base v m qs es) :
    ∃ X k, v = .slice X m k ∧ m ≤ k ∧ k ≤ maxLen ∧ (X = none → m = 0) ∧ Es w X es := by
  have hr := h.row
  obtain ⟨hlen, hh | ⟨g, cap, cur, rfl, hg, hb, h1, h2, h3, h4⟩⟩ := hr
  · obtain ⟨rfl, rfl⟩ := hh
    exact ⟨none, 0, rfl, Nat.le_refl _, by unfold maxLen; omega, fun _ => rfl, .inl (List.eq_nil_of_length_eq_zero h.el)⟩
  · refine ⟨_, cap, rfl, h1, h2, (fun h => by cases h), ?_⟩
    by_cases h0 : es = []
    · exact .inl h0
    have hl : 0 < qs.length := by rw [h.ql, ← h.el]; exact List.length_pos_iff.2 h0
    refine .inr ⟨_, rfl, (Array.getElem?_eq_some_iff.1 hb).1, fun i hi => ?_⟩
    have hi' : i < qs.length := by rw [h.ql, ← h.el]; exact hi
    have hE := h.ent i (by rw [← h.el]; exact hi)
    obtain ⟨b', o', hA', _, hc⟩ := Rd.field 3 ec_len (Rd.own h.row) i hi' (by omega)
    injection hA' with hA'
    injection hA' with e1 e2
    subst e1 e2
    have c0 := hc 0 (by omega)
    have c1 := hc 1 (by omega)
    have c2 := hc 2 (by omega)
    have eq1 : qs[i] = qe qs i := (qe_eq qs i hi').symm
    rw [adds]
    refine ⟨hE.ks, (qe qs i).A, (qe qs i).n, (qe qs i).c, ?_, ?_, ?_, hE.lq⟩
    · rw [← hE.key, ← eq1]; simpa [ec] using c0
    · rw [← hE.day, ← eq1]; simpa [ec] using c1
    · rw [← eq1]; simpa [ec] using c2
end Go.Proofs.YtahegjhjonodlaaDoor
