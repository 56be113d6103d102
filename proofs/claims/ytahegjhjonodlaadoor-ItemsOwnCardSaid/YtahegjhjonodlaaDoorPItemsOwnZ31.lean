/- Rows that the call made, told apart by their elements' types; a book that the call made. -/
import Derived.Test.YtahegjhjonodlaaDoorPItemsOwnZ1
import Derived.Test.YtahegjhjonodlaaDoorPItemsOwnZ3
import Derived.Test.YtahegjhjonodlaaDoorPItemsOwnZ5
import Derived.Test.YtahegjhjonodlaaDoorPItemsOwnZ23
import Derived.Test.YtahegjhjonodlaaDoorPItemsOwnZ24
import Derived.Test.YtahegjhjonodlaaDoorPItemsOwnZ25
import Derived.Test.YtahegjhjonodlaaDoorPItemsOwnZ26
import Derived.Test.YtahegjhjonodlaaDoorPItemsOwnZ27
import Derived.Test.YtahegjhjonodlaaDoorPItemsOwnZ28
import Derived.Test.YtahegjhjonodlaaDoorPItemsOwnZ29
import Derived.Test.YtahegjhjonodlaaDoorPItemsOwnZ30
import Derived.Test.YtahegjhjonodlaaDoorRows
import Derived.BigQuiet
import Derived.DataElems
import Derived.Deep.LoopGhost
import Derived.Deep.QuietTactic
import Derived.Deep.SlicePairs
import Derived.Deep.Slices
import Derived.Deep.Strs
import Derived.Handy
import Derived.Laws.Cover1
import Derived.Lib.Bytealg
import Derived.Lib.Hide
import Derived.Lib.SliceRun
import Derived.Lib.Walk
import Derived.OpenShut
import Derived.Outline
import Derived.OwnWalk
import Derived.PlainAid
import Derived.ProofKit
import Derived.RegionTactic
import Derived.Shelf.Abstract
import Derived.Sort.Walk0
import Derived.WalkKit
import Derived.WalkSpells
namespace Go.Proofs.YtahegjhjonodlaaDoor
open Go.ChangeShapes Go.WideShapes Go.ChangeAt Go.RowKit Go.PlainAid
set_option linter.unusedVariables false
set_option maxRecDepth 100000

theorem own_blk {w : World} {B s n : Nat} {T : TypeId} {v : Value} {xs : List Value} (h : w.ownsRow B T s v n xs) {b : Nat} (hb : v.ownBlock = some b) : b < w.heap.size ∧ B ≤ b ∧ ∃ cur, w.heap[b]? = some (.cells cur T (0, 0)) := by
  obtain ⟨_, hh | ⟨g, cap, cur, rfl, hg, hb2, _⟩⟩ := h
  · rw [hh.1] at hb; simp [Value.ownBlock] at hb
  · simp [Value.ownBlock] at hb
    subst hb
    exact ⟨(Array.getElem?_eq_some_iff.1 hb2).1, hg, cur, hb2⟩
/-- another row grows: this one stays -/
theorem own_other {w w' : World} {B s n : Nat} {T : TypeId} {v : Value} {xs : List Value} (h : w.ownsRow B T s v n xs) {b : Nat} {T' : TypeId} {cur : Array Value} (hb : w.heap[b]? = some (.cells cur T' (0, 0))) (hT : T ≠ T') (hg : w.grownBy w' (some b)) : w'.ownsRow B T s v n xs := by
  refine ⟨h.1, ?_⟩
  rcases h.2 with hn | ⟨g, cap, cur2, rfl, hg2, hh, rest⟩
  · exact .inl hn
  · refine .inr ⟨g, cap, cur2, rfl, hg2, (hg.block g (Array.getElem?_eq_some_iff.1 hh).1 ?_).trans hh, rest⟩
    intro e
    injection e with e
    subst e
    rw [hh] at hb
    injection hb with hb
    injection hb with _ hb _
    exact hT hb
theorem own_kept {w w' : World} {B s n : Nat} {T : TypeId} {v : Value} {xs : List Value} (h : w.ownsRow B T s v n xs) (hg : w.grownBy w' none) : w'.ownsRow B T s v n xs := by
  refine ⟨h.1, ?_⟩
  rcases h.2 with hn | ⟨g, cap, cur2, rfl, hg2, hh, rest⟩
  · exact .inl hn
  · exact .inr ⟨g, cap, cur2, rfl, hg2, (hg.block g (Array.getElem?_eq_some_iff.1 hh).1 (by simp)).trans hh, rest⟩
theorem grown_mor {w w' : World} (h : Mor w w') (r : Option Nat) : w.grownBy w' r := ⟨h.below.os, h.below.tape, h.below.output, h.below.size, fun k hk _ => h.below.block k hk⟩
theorem own_mor {w w' : World} {B s n : Nat} {T : TypeId} {v : Value} {xs : List Value} (h : w.ownsRow B T s v n xs) (hm : Mor w w') : w'.ownsRow B T s v n xs := own_kept h (grown_mor hm none)
theorem own_base {w : World} {B B' s n : Nat} {T : TypeId} {u : Value} {ys : List Value} (h : w.ownsRow B T s u n ys) (hB : B' ≤ B) : w.ownsRow B' T s u n ys := by
  refine ⟨h.1, ?_⟩
  rcases h.2 with hn | ⟨g, cap, cur, rfl, hg, rest⟩
  · exact .inl hn
  · exact .inr ⟨g, cap, cur, rfl, Nat.le_trans hB hg, rest⟩
/-- a row's own shape -/
theorem own_lq {w : World} {B n : Nat} {T : TypeId} {v : Value} {xs : List Ln} (h : w.ownsRow B T 2 v n (flat pc xs)) (hl : xs.length = n) (hs : ∀ i, i < n → (cd xs i).size ≤ maxLen) :
    ∃ A c, v = .slice A n c ∧ Lq w A n c xs := by
  have hr := h
  obtain ⟨hlen, hh | ⟨g, cap, cur, rfl, hg, hb, h1, h2, h3, h4⟩⟩ := h
  · obtain ⟨rfl, rfl⟩ := hh
    exact ⟨none, 0, rfl, Si.of_rd (Rd.own hr), hl, Nat.le_refl _, by unfold maxLen; omega, fun _ => rfl, hs⟩
  · exact ⟨_, cap, rfl, Si.of_rd (Rd.own hr), hl, h1, h2, (fun h => by cases h), hs⟩

/-- an entry's cells -/
structure Ev where
  key : ByteArray
  day : Int
  A : Option Addr
  n : Nat
  c : Nat
def ec (q : Ev) : List Value := [.string q.key, .int .i64 q.day, .slice q.A q.n q.c]
theorem ec_len (q : Ev) : (ec q).length = 3 := rfl
def ev0 : Ev := ⟨ByteArray.empty, 0, none, 0, 0⟩
def qe (qs : List Ev) (i : Nat) : Ev := qs.getD i ev0
theorem qe_eq (qs : List Ev) (i : Nat) (h : i < qs.length) : qe qs i = qs[i] := by
  unfold qe; rw [List.getD_eq_getElem?_getD, List.getElem?_eq_getElem h]; rfl
/-- an entry that the call made -/
structure OwnE (w : World) (base : Nat) (q : Ev) (x : En) : Prop where
  key : q.key = x.key
  day : q.day = x.day
  row : w.ownsRow base 87 2 (.slice q.A q.n q.c) q.n (flat pc x.ls)
  len : x.ls.length = q.n
  ks : x.key.size ≤ maxLen
  str : ∀ i, i < q.n → (cd x.ls i).size ≤ maxLen
theorem OwnE.mor {w w' : World} {base : Nat} {q : Ev} {x : En} (h : OwnE w base q x) (hm : Mor w w') : OwnE w' base q x := ⟨h.key, h.day, own_mor h.row hm, h.len, h.ks, h.str⟩
theorem OwnE.lq {w : World} {base : Nat} {q : Ev} {x : En} (h : OwnE w base q x) : Lq w q.A q.n q.c x.ls := by
  obtain ⟨A, c, e, hl⟩ := own_lq h.row h.len h.str
  injection e with e1 _ e3
  rw [e1, e3]; exact hl
/-- entries that the call made -/
structure OwnEs (w : World) (base : Nat) (v : Value) (m : Nat) (qs : List Ev) (es : List En) : Prop where
  row : w.ownsRow base 84 3 v m (flat ec qs)
  ql : qs.length = m
  el : es.length = m
  ent : ∀ i, i < m → OwnE w base (qe qs i) (ne es i)
theorem OwnEs.mor {w w' : World} {base : Nat} {v : Value} {m : Nat} {qs : List Ev} {es : List En} (h : OwnEs w base v m qs es) (hm : Mor w w') : OwnEs w' base v m qs es :=
  ⟨own_mor h.row hm, h.ql, h.el, fun i hi => (h.ent i hi).mor hm⟩
theorem OwnEs.shape {w : World} {base : Nat} {v : Value} {m : Nat} {qs : List Ev} {es : List En} (h : OwnEs w base v m qs es) :
    ∃ X k, v = .slice X m k ∧ m ≤ k ∧ k ≤ maxLen ∧ (X = none → m = 0) ∧ Es w X es := by
  have hr := h.row
  obtain ⟨hlen, hh | ⟨g, cap, cur, rfl, hg, hb, h1, h2, h3, h4⟩⟩ := hr
  · obtain ⟨rfl, rfl⟩ := hh
    exact ⟨none, 0, rfl, Nat.le_refl _, by unfold maxLen; omega, fun _ => rfl, .inl (List.eq_nil_of_length_eq_zero h.el)⟩
  · refine ⟨_, cap, rfl, h1, h2, (fun h => by cases h), ?_⟩
    by_cases h0 : es = []
    · exact .inl h0
    have hl : 0 < qs.length := by rw [h.ql, ← h.el]; exact List.length_pos_iff.2 h0
    refine .inr ⟨_, rfl, (Array.getElem?_eq_some_iff.1 hb).1, fun i hi => ?_⟩
    have hi' : i < qs.length := by rw [h.ql, ← h.el]; exact hi
    have hE := h.ent i (by rw [← h.el]; exact hi)
    obtain ⟨b', o', hA', _, hc⟩ := Rd.field 3 ec_len (Rd.own h.row) i hi' (by omega)
    injection hA' with hA'
    injection hA' with e1 e2
    subst e1 e2
    have c0 := hc 0 (by omega)
    have c1 := hc 1 (by omega)
    have c2 := hc 2 (by omega)
    have eq1 : qs[i] = qe qs i := (qe_eq qs i hi').symm
    rw [adds]
    refine ⟨hE.ks, (qe qs i).A, (qe qs i).n, (qe qs i).c, ?_, ?_, ?_, hE.lq⟩
    · rw [← hE.key, ← eq1]; simpa [ec] using c0
    · rw [← hE.day, ← eq1]; simpa [ec] using c1
    · rw [← eq1]; simpa [ec] using c2
end Go.Proofs.YtahegjhjonodlaaDoor

/- Plans: how they lie in memory, and how those that came in read. -/
namespace Go.Proofs.YtahegjhjonodlaaDoor
open Go.ChangeShapes Go.WideShapes Go.ChangeAt Go.RowKit Go.PlainAid
set_option linter.unusedVariables false

/-- a plan -/
structure Pln where
  key : ByteArray
  kind : Int
  frm : Int
  amt : Int
  num : Int
  deb : ByteArray
  cre : ByteArray
instance : Inhabited Pln := ⟨⟨ByteArray.empty, 0, 0, 0, 0, ByteArray.empty, ByteArray.empty⟩⟩
def np (ps : List Pln) (i : Nat) : Pln := ps.getD i default
theorem np_eq (ps : List Pln) (i : Nat) (h : i < ps.length) : np ps i = ps[i] := by
  unfold np; rw [List.getD_eq_getElem?_getD, List.getElem?_eq_getElem h]; rfl
/-- a plan's numbers are of their kind, its strings no longer than a string may be -/
def wi64 (n : Int) : Prop := -9223372036854775808 ≤ n ∧ n ≤ 9223372036854775807
structure Pwf (p : Pln) : Prop where
  k : p.key.size ≤ maxLen
  d : p.deb.size ≤ maxLen
  c : p.cre.size ≤ maxLen
  frm : wi64 p.frm
  amt : wi64 p.amt
  num : wi64 p.num
  kind : wi64 p.kind
/-- the seven cells of a plan at x -/
structure Pat (w : World) (x : Addr) (p : Pln) : Prop where
  c0 : w.cell? x = some (.string p.key)
  c1 : w.cell? ⟨x.block, x.off + 1, none⟩ = some (.int .i64 p.kind)
  c2 : w.cell? ⟨x.block, x.off + 2, none⟩ = some (.int .i64 p.frm)
  c3 : w.cell? ⟨x.block, x.off + 3, none⟩ = some (.int .i64 p.amt)
  c4 : w.cell? ⟨x.block, x.off + 4, none⟩ = some (.int .i64 p.num)
  c5 : w.cell? ⟨x.block, x.off + 5, none⟩ = some (.string p.deb)
  c6 : w.cell? ⟨x.block, x.off + 6, none⟩ = some (.string p.cre)
theorem Pat.mor {w w' : World} {x : Addr} {p : Pln} (h : Pat w x p) (hx : x.block < w.heap.size) (hm : Mor w w') : Pat w' x p := by
  have hB := hm.below
  exact ⟨(hB.cell (p := x) hx).trans h.c0, (hB.cell (p := ⟨x.block, x.off + 1, none⟩) hx).trans h.c1, (hB.cell (p := ⟨x.block, x.off + 2, none⟩) hx).trans h.c2, (hB.cell (p := ⟨x.block, x.off + 3, none⟩) hx).trans h.c3,
    (hB.cell (p := ⟨x.block, x.off + 4, none⟩) hx).trans h.c4, (hB.cell (p := ⟨x.block, x.off + 5, none⟩) hx).trans h.c5, (hB.cell (p := ⟨x.block, x.off + 6, none⟩) hx).trans h.c6⟩
/-- plans that the slice at A reads -/
def Ps (w : World) (A : Option Addr) (ps : List Pln) : Prop :=
  ps = [] ∨ ∃ x, A = some x ∧ x.block < w.heap.size ∧ ∀ i, i < ps.length → Pwf (np ps i) ∧ Pat w (x.add (i * 7)) (np ps i)
theorem Ps.mor {w w' : World} {A : Option Addr} {ps : List Pln} (h : Ps w A ps) (hm : Mor w w') : Ps w' A ps := by
  rcases h with h | ⟨x, e, hb, hc⟩
  · exact .inl h
  · exact .inr ⟨x, e, by have := hm.below.size; omega, fun i hi => ⟨(hc i hi).1, (hc i hi).2.mor (by rw [addb]; exact hb) hm⟩⟩
theorem Ps.at_ {w : World} {A : Option Addr} {ps : List Pln} (h : Ps w A ps) (i : Nat) (hi : i < ps.length) :
    ∃ x, A = some x ∧ x.block < w.heap.size ∧ Pwf (np ps i) ∧ Pat w (x.add (i * 7)) (np ps i) := by
  rcases h with h | ⟨x, e, hb, hc⟩
  · subst h; simp at hi
  · exact ⟨x, e, hb, hc i hi⟩
theorem Ps.take {w : World} {A : Option Addr} {ps : List Pln} (h : Ps w A ps) (k : Nat) : Ps w A (ps.take k) := by
  rcases h with h | ⟨x, e, hb, hc⟩
  · subst h; exact .inl (by simp)
  · refine .inr ⟨x, e, hb, fun i hi => ?_⟩
    have hi2 : i < ps.length := by rw [List.length_take] at hi; omega
    have hk : i < k := by rw [List.length_take] at hi; omega
    have e2 : np (ps.take k) i = np ps i := by rw [np_eq _ _ hi, np_eq _ _ hi2, List.getElem_take]
    rw [e2]; exact hc i hi2
/-- one plan of them, for itself -/
theorem Ps.one {w : World} {x : Addr} {ps : List Pln} (h : Ps w (some x) ps) (k : Nat) (hk : k < ps.length) : Ps w (some (x.add (k * 7))) [np ps k] := by
  obtain ⟨y, e, hb, hw, hc⟩ := h.at_ k hk
  injection e with e
  subst e
  refine .inr ⟨_, rfl, by rw [addb]; exact hb, fun i hi => ?_⟩
  have : i = 0 := by simp at hi; exact hi
  subst this
  have e3 : (x.add (k * 7)).add (0 * 7) = x.add (k * 7) := by rw [Addr.add_add]; rfl
  rw [e3]
  exact ⟨hw, hc⟩

set_option maxRecDepth 20000
theorem cells_plan : Tryd.prog.cellsOf 59 = 7 := by kernel_rfl
theorem wf64 {n : Int} (h : (Lit.int .i64 n).wf = true) : wi64 n := by
  unfold Lit.wf at h
  rw [Bool.and_eq_true] at h
  have h1 := of_decide_eq_true h.1
  have h2 := of_decide_eq_true h.2
  exact ⟨h1, h2⟩
theorem open_pl {H : Type} {enc : TypeId × Value → H} {w : World} {base : Nat} {spare : Nat → Bool} {held : Bool} {fuel : Nat} {c : Value} {x : DataW H × List MemPlace} (h : DataW.trod enc Tryd.prog w base spare held fuel 49 [c] = some x) :
    ∃ A n k ps, c = .slice A n k ∧ Ps w A ps ∧ ps.length = n ∧ n ≤ k ∧ k ≤ maxLen ∧ (A = none → n = 0) := by
  rcases Deep.open_slice Tryd.underlying49 h with ⟨hc, _⟩ | ⟨a, len, cap, m, n, D, Pl, hc, hb, hl, hm, hmm, _, hx⟩
  · simp at hc
    subst hc
    exact ⟨none, 0, 0, [], rfl, .inl rfl, rfl, Nat.le_refl _, by unfold maxLen; omega, fun _ => rfl⟩
  · simp at hc
    subst hc
    have hlm : len ≤ m := by rw [hmm]; split <;> omega
    have each : ∀ i, i < len → ∃ q : Pln, Pwf q ∧ Pat w (a.add (i * 7)) q := by
      intro i hi
      obtain ⟨cs', h1, h2⟩ := hx i (by omega)
      rw [cells_plan] at h1
      obtain ⟨_, hlen, hcell⟩ := World.cells?_some h1
      obtain ⟨xs, j, hj, hxy, _, hxl, hf⟩ := DataW.trod_struct Tryd.underlying59 h2
      match xs, hxl, cs', hlen with
      | [y0, y1, y2, y3, y4, y5, y6], _, [v0, v1, v2, v3, v4, v5, v6], _ =>
        have g0 := hf 0 _ rfl
        have g1 := hf 1 _ rfl
        have g2 := hf 2 _ rfl
        have g3 := hf 3 _ rfl
        have g4 := hf 4 _ rfl
        have g5 := hf 5 _ rfl
        have g6 := hf 6 _ rfl
        simp [cells_str, cells_int] at g0 g1 g2 g3 g4 g5 g6
        obtain ⟨s0, e0, _, hs0⟩ := DataW.trod_string Tryd.underlying9 g0
        obtain ⟨d1, e1, _, hd1⟩ := DataW.trod_int Tryd.underlying3 g1
        obtain ⟨d2, e2, _, hd2⟩ := DataW.trod_int Tryd.underlying3 g2
        obtain ⟨d3, e3, _, hd3⟩ := DataW.trod_int Tryd.underlying3 g3
        obtain ⟨d4, e4, _, hd4⟩ := DataW.trod_int Tryd.underlying3 g4
        obtain ⟨s5, e5, _, hs5⟩ := DataW.trod_string Tryd.underlying9 g5
        obtain ⟨s6, e6, _, hs6⟩ := DataW.trod_string Tryd.underlying9 g6
        simp at e0 e1 e2 e3 e4 e5 e6
        subst e0 e1 e2 e3 e4 e5 e6
        have c0 := hcell 0 (by omega)
        have c1 := hcell 1 (by omega)
        have c2 := hcell 2 (by omega)
        have c3 := hcell 3 (by omega)
        have c4 := hcell 4 (by omega)
        have c5 := hcell 5 (by omega)
        have c6 := hcell 6 (by omega)
        rw [Addr.add_succ' (a.add (i * 7)) 0] at c1
        rw [Addr.add_succ' (a.add (i * 7)) 1] at c2
        rw [Addr.add_succ' (a.add (i * 7)) 2] at c3
        rw [Addr.add_succ' (a.add (i * 7)) 3] at c4
        rw [Addr.add_succ' (a.add (i * 7)) 4] at c5
        rw [Addr.add_succ' (a.add (i * 7)) 5] at c6
        have e : (a.add (i * 7)).add 0 = a.add (i * 7) := by rw [Addr.add_add]; rfl
        rw [e] at c0
        exact ⟨⟨s0, d1, d2, d3, d4, s5, s6⟩, ⟨hs0, hs5, hs6, wf64 hd2, wf64 hd3, wf64 hd4, wf64 hd1⟩, by simpa using c0, by simpa using c1, by simpa using c2, by simpa using c3, by simpa using c4, by simpa using c5, by simpa using c6⟩
    obtain ⟨q, hq⟩ := Deep.choose_lt each
    have hget : ∀ i, i < len → np ((List.range len).map q) i = q i := fun i hi => by
      unfold np
      rw [List.getD_eq_getElem?_getD, List.getElem?_map, List.getElem?_range hi]; rfl
    refine ⟨some a, len, cap, (List.range len).map q, rfl, ?_, by simp, hl, hm, fun h => by cases h⟩
    by_cases h0 : len = 0
    · subst h0; exact .inl rfl
    · refine .inr ⟨a, rfl, ?_, fun i hi => ?_⟩
      · obtain ⟨_, h1⟩ := hq 0 (by omega)
        have := World.block_lt_of_cell? _ _ h1.c0
        rw [addb] at this; exact this
      · rw [hget i (by simpa using hi)]; exact hq i (by simpa using hi)

end Go.Proofs.YtahegjhjonodlaaDoor
