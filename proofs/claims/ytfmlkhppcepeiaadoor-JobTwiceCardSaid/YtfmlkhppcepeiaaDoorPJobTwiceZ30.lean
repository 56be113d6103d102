/- job.Due, whether the plans are good or not; plans that a law lays itself; ContainsFunc with R.Same. -/
import Derived.Test.YtfmlkhppcepeiaaDoorPJobTwiceZ1
import Derived.Test.YtfmlkhppcepeiaaDoorPJobTwiceZ2
import Derived.Test.YtfmlkhppcepeiaaDoorPJobTwiceZ3
import Derived.Test.YtfmlkhppcepeiaaDoorPJobTwiceZ4
import Derived.Test.YtfmlkhppcepeiaaDoorPJobTwiceZ5
import Derived.Test.YtfmlkhppcepeiaaDoorPJobTwiceZ6
import Derived.Test.YtfmlkhppcepeiaaDoorPJobTwiceZ7
import Derived.Test.YtfmlkhppcepeiaaDoorPJobTwiceZ8
import Derived.Test.YtfmlkhppcepeiaaDoorPJobTwiceZ9
import Derived.Test.YtfmlkhppcepeiaaDoorPJobTwiceZ10
import Derived.Test.YtfmlkhppcepeiaaDoorPJobTwiceZ11
import Derived.Test.YtfmlkhppcepeiaaDoorPJobTwiceZ12
import Derived.Test.YtfmlkhppcepeiaaDoorPJobTwiceZ13
import Derived.Test.YtfmlkhppcepeiaaDoorPJobTwiceZ14
import Derived.Test.YtfmlkhppcepeiaaDoorPJobTwiceZ15
import Derived.Test.YtfmlkhppcepeiaaDoorPJobTwiceZ16
import Derived.Test.YtfmlkhppcepeiaaDoorPJobTwiceZ17
import Derived.Test.YtfmlkhppcepeiaaDoorPJobTwiceZ18
import Derived.Test.YtfmlkhppcepeiaaDoorPJobTwiceZ19
import Derived.Test.YtfmlkhppcepeiaaDoorPJobTwiceZ20
import Derived.Test.YtfmlkhppcepeiaaDoorPJobTwiceZ21
import Derived.Test.YtfmlkhppcepeiaaDoorPJobTwiceZ22
import Derived.Test.YtfmlkhppcepeiaaDoorPJobTwiceZ23
import Derived.Test.YtfmlkhppcepeiaaDoorPJobTwiceZ24
import Derived.Test.YtfmlkhppcepeiaaDoorPJobTwiceZ25
import Derived.Test.YtfmlkhppcepeiaaDoorPJobTwiceZ26
import Derived.Test.YtfmlkhppcepeiaaDoorPJobTwiceZ27
import Derived.Test.YtfmlkhppcepeiaaDoorPJobTwiceZ28
import Derived.Test.YtfmlkhppcepeiaaDoorPJobTwiceZ29
import Derived.Test.YtfmlkhppcepeiaaDoorRows
import Derived.BigQuiet
import Derived.BigRegion
import Derived.Carry
import Derived.DataElems
import Derived.Deep.DeepCutAuto
import Derived.Deep.LoopGhost
import Derived.Deep.OwnRows
import Derived.Deep.QuietTactic
import Derived.Deep.RegionHeld3
import Derived.Deep.RegionLaw
import Derived.Deep.RegionWith
import Derived.Deep.SlicePairs
import Derived.Deep.Slices
import Derived.Deep.Strs
import Derived.Handy
import Derived.IntWalk
import Derived.Laws.AppendOwn
import Derived.Laws.BytesArg
import Derived.Laws.CopyOwn
import Derived.Laws.CopyRow
import Derived.Laws.Cover1
import Derived.Laws.Externs
import Derived.Laws.NewBlocks
import Derived.Laws.OwnMore
import Derived.Laws.StandIn
import Derived.Lib.AppendZerosOnto
import Derived.Lib.Bytealg
import Derived.Lib.Hide
import Derived.Lib.LaidTab
import Derived.Lib.Overlaps
import Derived.Lib.SliceRun
import Derived.Lib.Walk
import Derived.Maps.Own
import Derived.Maps.OwnSet
import Derived.Maps.Views
import Derived.OpenShut
import Derived.Outline
import Derived.OwnWalk
import Derived.PlainAid
import Derived.ProofKit
import Derived.RegionTactic
import Derived.Shelf.Abstract
import Derived.Shelf.RegionOpenPlain
import Derived.Sort.Walk0
import Derived.StringKeys
import Derived.WalkKit
import Derived.WalkSpells
namespace Go.Proofs.YtfmlkhppcepeiaaDoor
open Go.ChangeShapes Go.WideShapes Go.ChangeAt Go.RowKit Go.PlainAid
set_option linter.unusedVariables false

set_option maxRecDepth 100000 in
set_option maxHeartbeats 1600000 in
theorem due_no (A : Option Addr) (n cap : Nat) (ps : List Pln) (day : Int) (w : World) (hr : Ps w A ps) (hn : ps.length = n) (hcap : n ≤ cap) (hml : cap ≤ maxLen) (ht : Tab w) (hc : plc ps ≠ 0) :
    Calls Tryd.prog 7 #[.slice A n cap, .int .i64 day] w fun e w' => e = .returned (.tuple #[.slice none 0 0, .int .i64 (plc ps)]) ∧ Mor w w' := by
  have HCk := Lib.hid (fun w' (h : Mor w w') => plc_any A n cap ps w' (hr.mor h) hn hcap hml (ht.mor h))
  generalize plc ps = r at *
  have hb : (r != 0) = true := by simpa using hc
  clear hr ht hn
  go_enter Tryd.func7, Tryd.ntmps7
  go_wp2_with (first | (go_at_call 19; (with_reducible refine (HCk.out _ (Mor.refl _)).mono ?_); rintro e w1 ⟨rfl, hm1⟩))
  have HM := Lib.hid hm1
  clear hm1
  go_returns
  exact ⟨rfl, HM.out⟩
/-- what is due, or nothing -/
noncomputable def duev (ps : List Pln) (day : Int) : List En := if plc ps = 0 then dueP ps day else []
theorem duev_ok {ps : List Pln} {day : Int} (h : plc ps = 0) : duev ps day = dueP ps day := by unfold duev; rw [if_pos h]
theorem duev_no {ps : List Pln} {day : Int} (h : plc ps ≠ 0) : duev ps day = [] := by unfold duev; rw [if_neg h]
theorem due_any (A : Option Addr) (n cap : Nat) (ps : List Pln) (day : Int) (w : World) (hr : Ps w A ps) (hn : ps.length = n) (hcap : n ≤ cap) (hml : cap ≤ maxLen) (ht : Tab w) (d0 : 0 ≤ day) (d9 : day ≤ 292193) :
    Calls Tryd.prog 7 #[.slice A n cap, .int .i64 day] w fun e w' => ∃ X m k qs, e = .returned (.tuple #[.slice X m k, .int .i64 (plc ps)]) ∧ (duev ps day).length = m ∧ OwnEs w' w.heap.size (.slice X m k) m qs (duev ps day) ∧ Mor w w' := by
  by_cases h : plc ps = 0
  · refine (due_ok A n cap ps day w hr hn hcap hml ht h d0 d9).mono ?_
    rintro e w' ⟨v, qs, rfl, ho, hm⟩
    rw [duev_ok h, h]
    obtain ⟨X, k, rfl, _⟩ := ho.shape
    exact ⟨X, _, k, qs, rfl, rfl, ho, hm⟩
  · refine (due_no A n cap ps day w hr hn hcap hml ht h).mono ?_
    rintro e w' ⟨rfl, hm⟩
    rw [duev_no h]
    exact ⟨none, 0, 0, [], rfl, rfl, ⟨World.ownsRow_nil _ _ _ _, rfl, rfl, fun i hi => absurd hi (Nat.not_lt_zero _)⟩, hm⟩

/-- the cells of an entry of one's own -/
theorem OwnEs.cells {w : World} {base : Nat} {v : Value} {m : Nat} {qs : List Ev} {es : List En} (h : OwnEs w base v m qs es) (i : Nat) (hi : i < m) :
    ∃ g k, v = .slice (some ⟨g, 0, none⟩) m k ∧ m ≤ k ∧ k ≤ maxLen ∧ g < w.heap.size ∧ w.cell? ⟨g, i * 3, none⟩ = some (.string (ne es i).key) ∧ w.cell? ⟨g, i * 3 + 1, none⟩ = some (.int .i64 (ne es i).day) ∧ w.cell? ⟨g, i * 3 + 2, none⟩ = some (.slice (qe qs i).A (qe qs i).n (qe qs i).c) ∧ OwnE w base (qe qs i) (ne es i) := by
  have hr := h.row
  have hE := h.ent i hi
  obtain ⟨hlen, hh | ⟨g, cap, cur, rfl, hg, hb, h1, h2, h3, h4⟩⟩ := hr
  · obtain ⟨_, rfl⟩ := hh; omega
  · refine ⟨g, cap, rfl, h1, h2, (Array.getElem?_eq_some_iff.1 hb).1, ?_⟩
    have hi' : i < qs.length := by rw [h.ql]; exact hi
    obtain ⟨b', o', hA', _, hc⟩ := Rd.field 3 ec_len (Rd.own h.row) i hi' (by omega)
    injection hA' with hA'
    injection hA' with e1 e2
    subst e1 e2
    have c0 := hc 0 (by omega)
    have c1 := hc 1 (by omega)
    have c2 := hc 2 (by omega)
    have eq1 : qs[i] = qe qs i := (qe_eq qs i hi').symm
    refine ⟨?_, ?_, ?_, hE⟩
    · rw [← hE.key, ← eq1]; simpa [ec] using c0
    · rw [← hE.day, ← eq1]; simpa [ec] using c1
    · rw [← eq1]; simpa [ec] using c2
/-- an entry of two lines, and its first line -/
theorem OwnEs.line {w : World} {base : Nat} {v : Value} {m : Nat} {qs : List Ev} {es : List En} (h : OwnEs w base v m qs es) (i : Nat) (hi : i < m) (hl : (ne es i).ls.length = 2) :
    ∃ g k g2 c, v = .slice (some ⟨g, 0, none⟩) m k ∧ m ≤ k ∧ k ≤ maxLen ∧ g < w.heap.size ∧ g2 < w.heap.size ∧ w.cell? ⟨g, i * 3, none⟩ = some (.string (ne es i).key) ∧ w.cell? ⟨g, i * 3 + 1, none⟩ = some (.int .i64 (ne es i).day) ∧ w.cell? ⟨g, i * 3 + 2, none⟩ = some (.slice (some ⟨g2, 0, none⟩) 2 c) ∧
      w.cell? ⟨g2, 0, none⟩ = some (.string (cd (ne es i).ls 0)) ∧ w.cell? ⟨g2, 1, none⟩ = some (.int .i64 (am (ne es i).ls 0)) ∧ Lq w (some ⟨g2, 0, none⟩) 2 c (ne es i).ls ∧ (ne es i).key.size ≤ maxLen := by
  obtain ⟨g, k, e, h1, h2, gl, c0, c1, c2, hE⟩ := h.cells i hi
  have hn : (qe qs i).n = 2 := by rw [← hE.len]; exact hl
  have hq := hE.lq
  have hks := hE.ks
  have hr := hE.row
  rw [hn] at hr c2 hq
  obtain ⟨_, hh | ⟨g2, cap, cur, ev, _, hb, _⟩⟩ := id hr
  · obtain ⟨_, e⟩ := hh; omega
  · injection ev with e1 _ e3
    rw [e1] at hr c2 hq
    have l0 := World.ownsRow.cellAt hr 0 (by omega)
    have l1 := World.ownsRow.cellAt hr 1 (by omega)
    generalize ne es i = y at *
    obtain ⟨ky, dy, ls⟩ := y
    match ls, hl with
    | [a, b], _ => exact ⟨g, k, g2, (qe qs i).c, e, h1, h2, gl, (Array.getElem?_eq_some_iff.1 hb).1, c0, c1, c2, l0, l1, hq, hks⟩

/-- a plan that a law lays -/
theorem Ps.lit {w : World} {g : Nat} {key : ByteArray} {kind frm amt num : Int} {deb cre : ByteArray} (h : Bk w g 24 #[.string key, .int .i64 kind, .int .i64 frm, .int .i64 amt, .int .i64 num, .string deb, .string cre]) (hw : Pwf ⟨key, kind, frm, amt, num, deb, cre⟩) :
    Ps w (some ⟨g, 0, none⟩) [⟨key, kind, frm, amt, num, deb, cre⟩] := by
  refine .inr ⟨_, rfl, h.lt, fun i hi => ?_⟩
  obtain rfl : i = 0 := by simpa using hi
  have e : (⟨g, 0, none⟩ : Addr).add (0 * 7) = ⟨g, 0, none⟩ := by rw [adds]
  rw [e, show np [(⟨key, kind, frm, amt, num, deb, cre⟩ : Pln)] 0 = ⟨key, kind, frm, amt, num, deb, cre⟩ from rfl]
  exact ⟨hw, by simpa using h.cell 0, by simpa using h.cell 1, by simpa using h.cell 2, by simpa using h.cell 3, by simpa using h.cell 4, by simpa using h.cell 5, by simpa using h.cell 6⟩
theorem plc_one {p : Pln} (h : onec p = 0) : plc [p] = 0 := by
  unfold plc
  rw [if_neg (by simp)]
  show (if plUp [p] 0 ≠ 0 then plUp [p] 0 else plAt [p] 0) = 0
  rw [if_neg (by simp [plUp])]
  unfold plAt
  rw [show np [p] 0 = p from rfl, if_neg (by simp [h])]
  rfl
theorem d3 : IsD 3 0 4 := isD_num 0 4 (by decide) (by decide) (by decide) (by decide) (by decide)
theorem ad30 : ad 3 0 = 3 := ad_zero (by omega) (by omega)
theorem ad31 : ad 3 1 = 34 := by rw [ad_eq]; unfold cut; rw [d3.dk, d3.dm]; decide
abbrev kp : ByteArray := { data := #[112] }
def plA (kind amt num : Int) : Pln := ⟨kp, kind, 3, amt, num, s50, s10⟩
theorem plA_ok {kind amt num : Int} (h1 : kind = 0 ∨ kind = 1) (h2 : 0 ≤ amt) (h3 : amt ≤ 1000000000000) (h4 : 1 ≤ num) (h5 : num ≤ 40) : plc [plA kind amt num] = 0 := by
  apply plc_one
  have a1 : ¬ (keyB kp = false ∨ 9 < kp.size ∨ dashB kp = true) := by decide +kernel
  have a2 : ¬ (codeB s50 = false ∨ codeB s10 = false ∨ s50 = s10) := by decide +kernel
  have a3 : ¬ 9600 ≤ dk 3 + (num - 1) := by rw [d3.dk]; omega
  unfold onec
  rw [if_neg (show ¬ (keyB (plA kind amt num).key = false ∨ 9 < (plA kind amt num).key.size ∨ dashB (plA kind amt num).key = true) from a1), if_neg (by simp only [plA]; omega),
    if_neg (show ¬ (codeB (plA kind amt num).deb = false ∨ codeB (plA kind amt num).cre = false ∨ (plA kind amt num).deb = (plA kind amt num).cre) from a2), if_neg (show ¬ 9600 ≤ dk (plA kind amt num).frm + ((plA kind amt num).num - 1) from a3)]
theorem plA_wf {kind amt num : Int} (h1 : kind = 0 ∨ kind = 1) (h2 : 0 ≤ amt) (h3 : amt ≤ 1000000000000) (h4 : 1 ≤ num) (h5 : num ≤ 40) : Pwf (plA kind amt num) :=
  ⟨by show 1 ≤ maxLen; unfold maxLen; omega, by show 2 ≤ maxLen; unfold maxLen; omega, by show 2 ≤ maxLen; unfold maxLen; omega, by unfold wi64 plA; simp only; omega, by unfold wi64 plA; simp only; omega, by unfold wi64 plA; simp only; omega, by unfold wi64 plA; simp only; omega⟩
theorem dueP_one (p : Pln) (day : Int) : dueP [p] day = dueK p day p.num.toNat := by unfold dueP; simp [due1]

/-- R.Same with an entry that stands in a variable -/
theorem ne_mem {es : List En} {x : En} : x ∈ es ↔ ∃ i, i < es.length ∧ ne es i = x := by
  constructor
  · intro h
    obtain ⟨i, hi, e⟩ := List.mem_iff_getElem.1 h
    exact ⟨i, hi, by rw [ne_eq _ _ hi]; exact e⟩
  · rintro ⟨i, hi, rfl⟩
    rw [ne_eq _ _ hi]
    exact List.getElem_mem hi
end Go.Proofs.YtfmlkhppcepeiaaDoor

/- The walk of job.Run. -/
namespace Go.Proofs.YtfmlkhppcepeiaaDoor
open Go.ChangeShapes Go.WideShapes Go.ChangeAt Go.RowKit Go.PlainAid
set_option linter.unusedVariables false

/-- what goes wrong first where entries are posted one after another -/
def puc (b : Bok) (es : List En) : Nat → Int
  | 0 => 0
  | k + 1 => if puc b es k ≠ 0 then puc b es k else postc (madeb b (es.take k)) (ne es k)
theorem puc_bad {b : Bok} {es : List En} {k n : Nat} (h : puc b es k = 0) (hb : postc (madeb b (es.take k)) (ne es k) ≠ 0) (hk : k < n) : puc b es n = postc (madeb b (es.take k)) (ne es k) := by
  induction n with
  | zero => omega
  | succ n ih =>
    by_cases e : k = n
    · subst e
      show (if puc b es k ≠ 0 then puc b es k else postc (madeb b (es.take k)) (ne es k)) = _
      rw [if_neg (by simp [h])]
    · show (if puc b es n ≠ 0 then puc b es n else postc (madeb b (es.take n)) (ne es n)) = _
      rw [ih (by omega), if_pos hb]
theorem puc_ok {b : Bok} {es : List En} {k : Nat} (h : puc b es k = 0) (hb : postc (madeb b (es.take k)) (ne es k) = 0) : puc b es (k + 1) = 0 := by
  show (if puc b es k ≠ 0 then puc b es k else postc (madeb b (es.take k)) (ne es k)) = 0
  rw [if_neg (by simp [h]), hb]
theorem puc_at {b : Bok} {es : List En} {k n : Nat} (h : puc b es n = 0) (hk : k < n) : postc (madeb b (es.take k)) (ne es k) = 0 := by
  induction n with
  | zero => omega
  | succ n ih =>
    have h' : (if puc b es n ≠ 0 then puc b es n else postc (madeb b (es.take n)) (ne es n)) = 0 := h
    by_cases e : puc b es n = 0
    · rw [if_neg (by simp [e])] at h'
      by_cases e2 : k = n
      · subst e2; exact h'
      · exact ih e (by omega)
    · rw [if_pos e] at h'; exact absurd h' e
/-- what goes wrong where plans are run -/
noncomputable def runc (b : Bok) (ps : List Pln) (day : Int) : Int := if bookc b ≠ 0 then bookc b else if plc ps ≠ 0 then plc ps else puc b (dueP ps day) (dueP ps day).length

def RunNo (w : World) (r : Int) (e : Ending) (w' : World) : Prop := e = .returned (.tuple #[bv none 0 0 none 0 0 0, .int .i64 r]) ∧ Mor w w'
set_option maxRecDepth 100000 in
set_option maxHeartbeats 1600000 in
theorem run_bad1 (A : Option Addr) (n c : Nat) (X : Option Addr) (m k : Nat) (b : Bok) (L : Option Addr) (p q : Nat) (ps : List Pln) (day : Int) (w : World) (hb : Bq w A n c X m k b) (hr : Ps w L ps) (hn : ps.length = p) (hcap : p ≤ q) (hml : q ≤ maxLen) (ht : Tab w) (d0 : 0 ≤ day) (d9 : day ≤ 292193) (hc : bookc b ≠ 0) :
    Calls Tryd.prog 15 #[bv A n c X m k b.shut, .slice L p q, .int .i64 day] w (RunNo w (bookc b)) := by
  have HCk := Lib.hid (fun w' (h : Mor w w') => bcheck_any A n c X m k b w' (hb.mor h))
  have hb2 : (bookc b != 0) = true := by simpa using hc
  generalize b.shut = sh at *
  generalize bookc b = r at *
  clear hb hr hn ht
  go_enter Tryd.func15, Tryd.ntmps15
  go_wp2_with fail
  have hM0 := ((Mor.refl w).alloc (o := .cells #[.slice A n c, .slice X m k, .int .i64 sh] 45)).alloc (o := .cells #[.slice none 0 0, .slice none 0 0, .int .i64 0] 45)
  have hbP0 := (Bk.new w 45 #[.slice A n c, .slice X m k, .int .i64 sh]).alloc (.cells #[.slice none 0 0, .slice none 0 0, .int .i64 0] 45)
  have hbR0 := Bk.new (w.alloc (.cells #[.slice A n c, .slice X m k, .int .i64 sh] 45)) 45 #[.slice none 0 0, .slice none 0 0, .int .i64 0]
  rw [← sz1] at hbR0
  obtain ⟨bP, hgP⟩ : ∃ g, g = w.heap.size := ⟨_, rfl⟩
  rw [← hgP] at hbP0 hbR0 ⊢
  obtain ⟨bR, hgR⟩ : ∃ g, g = bP + 1 := ⟨_, rfl⟩
  rw [← hgR] at hbR0 ⊢
  generalize (w.alloc (.cells #[.slice A n c, .slice X m k, .int .i64 sh] 45)).alloc (.cells #[.slice none 0 0, .slice none 0 0, .int .i64 0] 45) = w0 at *
  have hgPw : w.heap.size ≤ bP := by omega
  have hgRw : w.heap.size ≤ bR := by omega
  have hPR : bP ≠ bR := by omega
  have hRP : bR ≠ bP := by omega
  have HP := Lib.hid (fun w' (h : Mor w0 w') => hbP0.mor h)
  have HR := Lib.hid (fun w' (h : Mor w0 w') => hbR0.mor h)
  have HM0 := Lib.hid hM0
  clear hgP hgR hM0 hbP0 hbR0
  refine (HCk.out _ HM0.out).mono ?_
  rintro e w2 ⟨rfl, hm⟩
  have HM2 := Lib.hid hm
  clear hm
  have hR := HR.out _ HM2.out
  have f0 := hR.frozen 0
  have f1 := hR.frozen 1
  have f2 := hR.frozen 2
  have r0 := hR.cell 0
  have r1 := hR.cell 1
  have r2 := hR.cell 2
  have rl := hR.lt
  simp at r0 r1 r2
  have HRx := Lib.hid hR
  have HMx := Lib.hid (HM0.out.trans' HM2.out)
  clear hR
  go_wp2_with fail
  have hb9 := ((HRx.out.set_ 0 (.slice none 0 0)).set_ 1 (.slice none 0 0)).set_ 2 (.int .i64 0)
  simp only [List.setIfInBounds_toArray, List.set_cons_zero, List.set_cons_succ] at hb9
  have hm9 := ((HMx.out.setC (i := 0) (u := .slice none 0 0) hgRw).setC (i := 1) (u := .slice none 0 0) hgRw).setC (i := 2) (u := .int .i64 0) hgRw
  have q0 := hb9.cell 0
  have q1 := hb9.cell 1
  have q2 := hb9.cell 2
  simp at q0 q1 q2
  refine bodyPost_ret (v := .tuple #[bv none 0 0 none 0 0 0, .int .i64 r]) (by simp [results, Tryd.results15, go_sem, q0, q1, q2]; try rfl) rfl ?_
  exact ⟨rfl, hm9⟩

set_option maxRecDepth 100000 in
set_option maxHeartbeats 1600000 in
theorem run_bad2 (A : Option Addr) (n c : Nat) (X : Option Addr) (m k : Nat) (b : Bok) (L : Option Addr) (p q : Nat) (ps : List Pln) (day : Int) (w : World) (hb : Bq w A n c X m k b) (hr : Ps w L ps) (hn : ps.length = p) (hcap : p ≤ q) (hml : q ≤ maxLen) (ht : Tab w) (d0 : 0 ≤ day) (d9 : day ≤ 292193) (hc : bookc b = 0) (hc2 : plc ps ≠ 0) :
    Calls Tryd.prog 15 #[bv A n c X m k b.shut, .slice L p q, .int .i64 day] w (RunNo w (plc ps)) := by
  have HCk := Lib.hid (fun w' (h : Mor w w') => bcheck_any A n c X m k b w' (hb.mor h))
  have HDu := Lib.hid (fun w' (h : Mor w w') => due_no L p q ps day w' (hr.mor h) hn hcap hml (ht.mor h) hc2)
  rw [hc] at HCk
  have hb2 : (plc ps != 0) = true := by simpa using hc2
  generalize b.shut = sh at *
  generalize plc ps = r at *
  clear hb hr hn ht
  go_enter Tryd.func15, Tryd.ntmps15
  go_wp2_with fail
  have hM0 := ((Mor.refl w).alloc (o := .cells #[.slice A n c, .slice X m k, .int .i64 sh] 45)).alloc (o := .cells #[.slice none 0 0, .slice none 0 0, .int .i64 0] 45)
  have hbP0 := (Bk.new w 45 #[.slice A n c, .slice X m k, .int .i64 sh]).alloc (.cells #[.slice none 0 0, .slice none 0 0, .int .i64 0] 45)
  have hbR0 := Bk.new (w.alloc (.cells #[.slice A n c, .slice X m k, .int .i64 sh] 45)) 45 #[.slice none 0 0, .slice none 0 0, .int .i64 0]
  rw [← sz1] at hbR0
  obtain ⟨bP, hgP⟩ : ∃ g, g = w.heap.size := ⟨_, rfl⟩
  rw [← hgP] at hbP0 hbR0 ⊢
  obtain ⟨bR, hgR⟩ : ∃ g, g = bP + 1 := ⟨_, rfl⟩
  rw [← hgR] at hbR0 ⊢
  generalize (w.alloc (.cells #[.slice A n c, .slice X m k, .int .i64 sh] 45)).alloc (.cells #[.slice none 0 0, .slice none 0 0, .int .i64 0] 45) = w0 at *
  have hgPw : w.heap.size ≤ bP := by omega
  have hgRw : w.heap.size ≤ bR := by omega
  have hPR : bP ≠ bR := by omega
  have hRP : bR ≠ bP := by omega
  have HP := Lib.hid (fun w' (h : Mor w0 w') => hbP0.mor h)
  have HR := Lib.hid (fun w' (h : Mor w0 w') => hbR0.mor h)
  have HM0 := Lib.hid hM0
  clear hgP hgR hM0 hbP0 hbR0
  refine (HCk.out _ HM0.out).mono ?_
  rintro e w2 ⟨rfl, hm⟩
  have HM2 := Lib.hid hm
  clear hm
  have hP := HP.out _ HM2.out
  have p0 := hP.cell 0
  have p1 := hP.cell 1
  have p2 := hP.cell 2
  have pl := hP.lt
  simp at p0 p1 p2
  go_wp2_with fail
  refine (HDu.out _ (HM0.out.trans' HM2.out)).mono ?_
  rintro e w3 ⟨rfl, hm⟩
  have HM3 := Lib.hid (HM2.out.trans' hm)
  clear hm hP p0 p1 p2 pl
  have hR := HR.out _ HM3.out
  have f0 := hR.frozen 0
  have f1 := hR.frozen 1
  have f2 := hR.frozen 2
  have r0 := hR.cell 0
  have r1 := hR.cell 1
  have r2 := hR.cell 2
  have rl := hR.lt
  simp at r0 r1 r2
  have HRx := Lib.hid hR
  have HMx := Lib.hid (HM0.out.trans' HM3.out)
  clear hR
  go_wp2_with fail
  have hb9 := ((HRx.out.set_ 0 (.slice none 0 0)).set_ 1 (.slice none 0 0)).set_ 2 (.int .i64 0)
  simp only [List.setIfInBounds_toArray, List.set_cons_zero, List.set_cons_succ] at hb9
  have hm9 := ((HMx.out.setC (i := 0) (u := .slice none 0 0) hgRw).setC (i := 1) (u := .slice none 0 0) hgRw).setC (i := 2) (u := .int .i64 0) hgRw
  have q0 := hb9.cell 0
  have q1 := hb9.cell 1
  have q2 := hb9.cell 2
  simp at q0 q1 q2
  refine bodyPost_ret (v := .tuple #[bv none 0 0 none 0 0 0, .int .i64 r]) (by simp [results, Tryd.results15, go_sem, q0, q1, q2]; try rfl) rfl ?_
  exact ⟨rfl, hm9⟩

set_option maxRecDepth 100000 in
set_option maxHeartbeats 3200000 in
theorem run_go (A : Option Addr) (n c : Nat) (X : Option Addr) (m k : Nat) (b : Bok) (L : Option Addr) (p q : Nat) (ps : List Pln) (day : Int) (w : World) (hb : Bq w A n c X m k b) (hr : Ps w L ps) (hn : ps.length = p) (hcap : p ≤ q) (hml : q ≤ maxLen) (ht : Tab w) (d0 : 0 ≤ day) (d9 : day ≤ 292193) (hc : bookc b = 0) (hc2 : plc ps = 0) :
    Calls Tryd.prog 15 #[bv A n c X m k b.shut, .slice L p q, .int .i64 day] w fun e w' =>
      (puc b (dueP ps day) (dueP ps day).length ≠ 0 ∧ RunNo w (puc b (dueP ps day) (dueP ps day).length) e w') ∨ (puc b (dueP ps day) (dueP ps day).length = 0 ∧ PostYes w (madeb b (dueP ps day)) e w') := by
  have HCk := Lib.hid (fun w' (h : Mor w w') => bcheck_any A n c X m k b w' (hb.mor h))
  have HDu := Lib.hid (fun w' (h : Mor w w') => due_any L p q ps day w' (hr.mor h) hn hcap hml (ht.mor h) d0 d9)
  rw [hc] at HCk
  rw [hc2, duev_ok hc2] at HDu
  have hbo := (bookc_iff b).1 hc
  have hm60 : m ≤ 60 := by rw [← hb.length]; exact hbo.len
  have hn24 : n ≤ 24 := by rw [← hb.ac.length]; exact (acc_len hbo.ac)
  have HCp := Lib.hid (fun w' (h : Mor w w') => copied_any A n c X m k b w' (hb.mor h) (by omega) (by omega) (fun y hy => by have := (linec_ok (entc_ok (hbo.enc y hy)).2.2.2).1; omega))
  have HLe : (dueP ps day).length ≤ 480 := by
    have h1 := plc_ok hc2
    have := dueP_le ps day h1.2.1 ps.length (Nat.le_refl _)
    rw [List.take_of_length_le (Nat.le_refl _)] at this
    omega
  have HSh := Lib.hid (fun es => (madeb_ac b es).2)
  have HAc := Lib.hid (fun es => (madeb_ac b es).1)
  generalize hsh : b.shut = sh at *
  have HB0 := Lib.hid hsh
  have HAl := Lib.hid hb.ac.length
  generalize dueP ps day = es at *
  clear hb hr hn ht hsh hbo
  go_enter Tryd.func15, Tryd.ntmps15
  go_wp2_with fail
  have hM0 := ((Mor.refl w).alloc (o := .cells #[.slice A n c, .slice X m k, .int .i64 sh] 45)).alloc (o := .cells #[.slice none 0 0, .slice none 0 0, .int .i64 0] 45)
  have hbP0 := (Bk.new w 45 #[.slice A n c, .slice X m k, .int .i64 sh]).alloc (.cells #[.slice none 0 0, .slice none 0 0, .int .i64 0] 45)
  have hbR0 := Bk.new (w.alloc (.cells #[.slice A n c, .slice X m k, .int .i64 sh] 45)) 45 #[.slice none 0 0, .slice none 0 0, .int .i64 0]
  rw [← sz1] at hbR0
  obtain ⟨bP, hgP⟩ : ∃ g, g = w.heap.size := ⟨_, rfl⟩
  rw [← hgP] at hbP0 hbR0 ⊢
  obtain ⟨bR, hgR⟩ : ∃ g, g = bP + 1 := ⟨_, rfl⟩
  rw [← hgR] at hbR0 ⊢
  generalize (w.alloc (.cells #[.slice A n c, .slice X m k, .int .i64 sh] 45)).alloc (.cells #[.slice none 0 0, .slice none 0 0, .int .i64 0] 45) = w0 at *
  have hgPw : w.heap.size ≤ bP := by omega
  have hgRw : w.heap.size ≤ bR := by omega
  have hPR : bP ≠ bR := by omega
  have hRP : bR ≠ bP := by omega
  have HP := Lib.hid (fun w' (h : Mor w0 w') => hbP0.mor h)
  have HR := Lib.hid (fun w' (h : Mor w0 w') => hbR0.mor h)
  have HM0 := Lib.hid hM0
  clear hgP hgR hM0 hbP0 hbR0
  refine (HCk.out _ HM0.out).mono ?_
  rintro e w2 ⟨rfl, hm⟩
  have HM2 := Lib.hid hm
  clear hm
  have hP := HP.out _ HM2.out
  have p0 := hP.cell 0
  have p1 := hP.cell 1
  have p2 := hP.cell 2
  have pl := hP.lt
  simp at p0 p1 p2
  go_wp2_with fail
  refine (HDu.out _ (HM0.out.trans' HM2.out)).mono ?_
  rintro e w3 ⟨Xd, md, kd, qs, rfl, hld, hod, hm⟩
  have HM3 := Lib.hid (HM2.out.trans' hm)
  have HOd := Lib.hid hod
  have HLd := Lib.hid hld
  clear hm hP p0 p1 p2 pl hod hld HDu HCk
  have hP := HP.out _ HM3.out
  have p0 := hP.cell 0
  have p1 := hP.cell 1
  have p2 := hP.cell 2
  have pl := hP.lt
  simp at p0 p1 p2
  go_wp2_with fail
  refine (HCp.out _ (HM0.out.trans' HM3.out)).mono ?_
  rintro e w4 ⟨vA, vX, rfl, ho4, hm⟩
  rw [HB0.out]
  obtain ⟨A5, c5, X5, k5, rfl, rfl, -⟩ := ho4.bq
  have HM4 := Lib.hid (HM3.out.trans' hm)
  have HOd4 := Lib.hid (HOd.out.mor hm)
  have how : w.heap.size ≤ w3.heap.size := (HM0.out.trans' HM3.out).below.size
  have ho5 := (ho4.base how).mor ((Mor.refl w4).alloc (o := .cells #[.slice A5 n c5, .slice X5 m k5, .int .i64 sh] 45))
  have hO5 := Bk.new w4 45 #[.slice A5 n c5, .slice X5 m k5, .int .i64 sh]
  have hM5 := (Mor.refl w4).alloc (o := .cells #[.slice A5 n c5, .slice X5 m k5, .int .i64 sh] 45)
  clear hm ho4 hP p0 p1 p2 pl HCp HOd
  go_wp2_with fail
  obtain ⟨bO, hbO⟩ : ∃ g, g = w4.heap.size := ⟨_, rfl⟩
  rw [← hbO] at hO5 ⊢
  generalize w4.alloc (.cells #[.slice A5 n c5, .slice X5 m k5, .int .i64 sh] 45) = w5 at *
  have hgO : w4.heap.size ≤ bO := by omega
  have hRO : bR < bO := by have := (HR.out _ HM4.out).lt; omega
  have hgOw : w.heap.size ≤ bO := by omega
  clear hbO how
  obtain ⟨Xd', kd', ed, hdk, hd63, -, hdes⟩ := HOd4.out.shape
  injection ed with ed1 _ ed3
  subst ed1 ed3
  have HEd := Lib.hid (fun w' (h : Mor w4 w') => hdes.mor h)
  have hmd : md ≤ 480 := by rw [← HLd.out]; exact HLe
  unfold maxLen at hd63
  clear hdes HOd4
  go_loopw [34] (fun i wr => ∃ (j : Nat) (A' : Option Addr) (c' : Nat) (X' : Option Addr) (m' k' : Nat), j ≤ md ∧ i = .int .i64 j ∧ Hid (puc b es j = 0) ∧ Hid (Bk wr bO 45 #[.slice A' n c', .slice X' m' k', .int .i64 sh] ∧ OwnB wr w.heap.size (.slice A' n c') (.slice X' m' k') n m' (madeb b (es.take j)) ∧ Mor w4 wr)) (fun i _ => md - (intOf i).toNat)
  case atStart => exact ⟨0, A5, c5, X5, m, k5, Nat.zero_le _, rfl, Lib.hid rfl, Lib.hid ⟨hO5, by rw [List.take_zero]; exact ho5, hM5⟩⟩
  case round =>
    clear hO5 ho5 hM5
    obtain ⟨j, A', c', X', m', k', hj, rfl, HPu, HJ⟩ := hrel
    obtain ⟨hO, hown, hm⟩ := HJ.out
    have c0 := hO.cell 0
    have c1 := hO.cell 1
    have c2 := hO.cell 2
    have cl := hO.lt
    simp at c0 c1 c2
    by_cases hlt : j < md
    · have hji : (j : Int) < (md : Int) := by omega
      have hj0 : (0 : Int) ≤ (j : Int) := by omega
      have hjl : j < es.length := by rw [HLd.out]; omega
      obtain ⟨x, A2, n2, c2', hE, hxb, hks, d0, d1, d2, hlq⟩ := (HEd.out _ hm).at_ j hjl
      subst hE
      have HTk := Lib.hid (madeb_take b es j hjl)
      have hbq := own_bq hown
      have hsj := HSh.out (es.take j)
      have haj := hbq.ac.length
      have HPb := Lib.hid (fun (h : postc (madeb b (es.take j)) (ne es j) ≠ 0) => puc_bad HPu.out h (show j < es.length from hjl))
      have HPo := Lib.hid (fun (h : postc (madeb b (es.take j)) (ne es j) = 0) => puc_ok HPu.out h)
      generalize madeb b (es.take j) = bj at *
      generalize ne es j = y at *
      obtain ⟨ky, dy, ls⟩ := y
      dsimp only at d0 d1 hks hlq
      have HPn := Lib.hid (fun w' (h : Mor wr w') (hc : postc bj ⟨ky, dy, ls⟩ ≠ 0) => show Calls Tryd.prog 30 #[bv A' n c' X' m' k' sh, .agg #[.string ky, .int .i64 dy, .slice A2 n2 c2']] w' (PostNo w' (postc bj ⟨ky, dy, ls⟩)) by
        have h3 := post_no A' n c' X' m' k' bj ⟨ky, dy, ls⟩ A2 n2 c2' w' (hbq.mor h) (hlq.mor h) hks hc
        rw [hsj] at h3
        exact h3)
      have HPy := Lib.hid (fun w' (h : Mor wr w') (hc : postc bj ⟨ky, dy, ls⟩ = 0) => show Calls Tryd.prog 30 #[bv A' n c' X' m' k' sh, .agg #[.string ky, .int .i64 dy, .slice A2 n2 c2']] w' (fun e w'' => ∃ A c X m k, e = .returned (.tuple #[bv A n c X m k sh, .int .i64 0]) ∧ OwnB w'' w'.heap.size (.slice A n c) (.slice X m k) n m (stepb bj ⟨ky, dy, ls⟩) ∧ Mor w' w'') by
        have h3 := post_yes A' n c' X' m' k' bj ⟨ky, dy, ls⟩ A2 n2 c2' w' (hbq.mor h) (hlq.mor h) hks hc
        rw [hsj] at h3
        refine h3.mono fun e w'' h => ?_
        obtain ⟨A9, c9, X9, m9, k9, he, ho, hm9⟩ := postYes_own h (n := n) (by rw [(post_ac _ _).1]; exact haj)
        rw [(post_ac _ _).2, hsj] at he
        exact ⟨A9, c9, X9, m9, k9, he, by rw [stepb_yes hc]; exact ho, hm9⟩)
      have HR2 := Lib.hid (fun w' (h : Mor wr w') => And.intro (hO.mor h) (hm.trans' h))
      have hww := (HM0.out.trans' (HM4.out.trans' hm)).below.size
      clear hO hown hm hbq hlq haj hsj HJ hks
      by_cases hc : postc bj ⟨ky, dy, ls⟩ = 0
      · have HP := Lib.hid (fun w' h => HPy.out w' h hc)
        have HPz := Lib.hid (HPo.out hc)
        clear hc HPn HPy HPb HPo
        go_wp2_with fail
        refine (HP.out _ (Mor.refl _).alloc).mono ?_
        rintro e w6 ⟨A9, c9, X9, m9, k9, rfl, ho, hm4⟩
        obtain ⟨hO, hm⟩ := HR2.out _ ((Mor.refl _).alloc.trans' hm4)
        have HOw := Lib.hid (ho.base (base' := w.heap.size) (by simp; omega))
        have HO4 := Lib.hid hO
        have HM5 := Lib.hid hm
        have cl := hO.lt
        have f0 := hO.frozen 0
        have f1 := hO.frozen 1
        have f2 := hO.frozen 2
        clear c0 c1 c2
        have c0 := hO.cell 0
        have c1 := hO.cell 1
        have c2 := hO.cell 2
        simp at c0 c1 c2
        clear hO hm4 hm ho HR2
        go_wp2_with fail
        go_roundw
        case rel =>
          have hb9 := ((HO4.out.set_ 0 (.slice A9 n c9)).set_ 1 (.slice X9 m9 k9)).set_ 2 (.int .i64 sh)
          simp only [List.setIfInBounds_toArray, List.set_cons_zero, List.set_cons_succ] at hb9
          have hm9 := ((HM5.out.setC (i := 0) (u := .slice A9 n c9) hgO).setC (i := 1) (u := .slice X9 m9 k9) hgO).setC (i := 2) (u := .int .i64 sh) hgO
          exact ⟨j + 1, A9, c9, X9, m9, k9, by omega, by go_num, HPz, Lib.hid ⟨hb9, by rw [HTk.out]; exact own3 HOw.out HO4.out, hm9⟩⟩
        case measure => simp [intOf]; omega
      · have HP := Lib.hid (fun w' h => HPn.out w' h hc)
        have HPz := Lib.hid (HPb.out hc)
        have hrb : (postc bj ⟨ky, dy, ls⟩ != 0) = true := by simpa using hc
        have HCn := Lib.hid hc
        generalize postc bj ⟨ky, dy, ls⟩ = r at *
        clear hc HPn HPy HPb HPo
        go_wp2_with fail
        refine (HP.out _ (Mor.refl _).alloc).mono ?_
        rintro e w6 ⟨rfl, hm4⟩
        obtain ⟨hO, hm⟩ := HR2.out _ ((Mor.refl _).alloc.trans' hm4)
        have hO9 := ((hO.set_ 0 (.slice none 0 0)).set_ 1 (.slice none 0 0)).set_ 2 (.int .i64 0)
        have hR9 := (((HR.out _ (HM4.out.trans' hm)).set_other bO 0 (.slice none 0 0) (by omega)).set_other bO 1 (.slice none 0 0) (by omega)).set_other bO 2 (.int .i64 0) (by omega)
        have hM9 := ((hm.setC (i := 0) (u := .slice none 0 0) hgO).setC (i := 1) (u := .slice none 0 0) hgO).setC (i := 2) (u := .int .i64 0) hgO
        have cl := hO.lt
        have f0 := hO.frozen 0
        have f1 := hO.frozen 1
        have f2 := hO.frozen 2
        clear c0 c1 c2
        have c0 := hO.cell 0
        have c1 := hO.cell 1
        have c2 := hO.cell 2
        simp at c0 c1 c2
        have g0 := hR9.frozen 0
        have g1 := hR9.frozen 1
        have g2 := hR9.frozen 2
        have r0 := hR9.cell 0
        have r1 := hR9.cell 1
        have r2 := hR9.cell 2
        have rl := hR9.lt
        simp at r0 r1 r2
        have HRx := Lib.hid hR9
        have HMx := Lib.hid ((HM0.out.trans' HM4.out).trans' hM9)
        clear hO hm4 hm HR2 hO9 hR9 hM9
        go_wp2_with fail
        have hb9 := ((HRx.out.set_ 0 (.slice none 0 0)).set_ 1 (.slice none 0 0)).set_ 2 (.int .i64 0)
        simp only [List.setIfInBounds_toArray, List.set_cons_zero, List.set_cons_succ] at hb9
        have hm9 := ((HMx.out.setC (i := 0) (u := .slice none 0 0) hgRw).setC (i := 1) (u := .slice none 0 0) hgRw).setC (i := 2) (u := .int .i64 0) hgRw
        have q0 := hb9.cell 0
        have q1 := hb9.cell 1
        have q2 := hb9.cell 2
        simp at q0 q1 q2
        refine bodyPost_ret (v := .tuple #[bv none 0 0 none 0 0 0, .int .i64 r]) (by simp [results, Tryd.results15, go_sem, q0, q1, q2]; try rfl) rfl ?_
        refine .inl ⟨by rw [HPz.out]; exact HCn.out, by rw [HPz.out]; exact ⟨rfl, hm9⟩⟩
    · obtain rfl : j = md := by omega
      have HOw := Lib.hid hown
      have HMx := Lib.hid ((HM0.out.trans' HM4.out).trans' hm)
      have hR := HR.out _ (HM4.out.trans' hm)
      have f0 := hR.frozen 0
      have f1 := hR.frozen 1
      have f2 := hR.frozen 2
      have r0 := hR.cell 0
      have r1 := hR.cell 1
      have r2 := hR.cell 2
      have rl := hR.lt
      simp at r0 r1 r2
      have HRx := Lib.hid hR
      clear hR hO hown hm HJ
      go_wp2_with fail
      have hb9 := ((HRx.out.set_ 0 (.slice A' n c')).set_ 1 (.slice X' m' k')).set_ 2 (.int .i64 sh)
      simp only [List.setIfInBounds_toArray, List.set_cons_zero, List.set_cons_succ] at hb9
      have hm9 := ((HMx.out.setC (i := 0) (u := .slice A' n c') hgRw).setC (i := 1) (u := .slice X' m' k') hgRw).setC (i := 2) (u := .int .i64 sh) hgRw
      have ho9 := own3 (a := .slice A' n c') (a' := .slice X' m' k') (a'' := .int .i64 sh) HOw.out HRx.out
      rw [List.take_of_length_le (by rw [HLd.out]; exact Nat.le_refl _)] at ho9
      have q0 := hb9.cell 0
      have q1 := hb9.cell 1
      have q2 := hb9.cell 2
      simp at q0 q1 q2
      refine bodyPost_ret (v := .tuple #[bv A' n c' X' m' k' sh, .int .i64 0]) (by simp [results, Tryd.results15, go_sem, q0, q1, q2]; try rfl) rfl ?_
      refine .inr ⟨by rw [HLd.out]; exact HPu.out, A', n, c', X', m', k', by rw [HSh.out], ho9, hm9⟩

end Go.Proofs.YtfmlkhppcepeiaaDoor

/- Running plans again, and in two steps, in plain Lean. -/
namespace Go.Proofs.YtfmlkhppcepeiaaDoor
open Go.ChangeShapes Go.WideShapes Go.ChangeAt Go.RowKit Go.PlainAid
set_option linter.unusedVariables false

theorem take_ne (es : List En) (j : Nat) (h : j < es.length) : es.take (j + 1) = es.take j ++ [ne es j] := by
  rw [List.take_succ_eq_append_getElem h, ne_eq es j h]
theorem puc_inv {b : Bok} (hb : BOk b) {es : List En} (h : puc b es es.length = 0) (j : Nat) (hj : j ≤ es.length) : OInv b (madeb b (es.take j)) (es.take j) := by
  induction j with
  | zero => rw [List.take_zero]; exact OInv.start hb
  | succ j ih =>
    have hc := puc_at h (show j < es.length by omega)
    rw [madeb_take b es j (by omega), take_ne es j (by omega), stepb_yes hc]
    exact (ih (by omega)).step hc
theorem puc_all {b : Bok} (hb : BOk b) {es : List En} (h : puc b es es.length = 0) : OInv b (madeb b es) es := by
  have := puc_inv hb h es.length (Nat.le_refl _)
  rwa [List.take_length] at this
theorem way_all {b x y : Bok} {d : List En} (h : OInv b x d) (hw : Way b x y) (es : List En) (hs : ∀ e ∈ es, e ∈ d) (j : Nat) (hj : j ≤ es.length) :
    puc y es j = 0 ∧ Way b x (madeb y (es.take j)) ∧ (∀ a ∈ y.en, a ∈ (madeb y (es.take j)).en) ∧ ∀ i, i < j → ne es i ∈ (madeb y (es.take j)).en := by
  induction j with
  | zero => rw [List.take_zero]; exact ⟨rfl, hw, fun _ h => h, fun i hi => absurd hi (Nat.not_lt_zero _)⟩
  | succ j ih =>
    obtain ⟨h1, h2, h3, h4⟩ := ih (by omega)
    obtain ⟨s1, s2, s3, s4⟩ := Way.step h h2 (hs (ne es j) (ne_mem.2 ⟨j, by omega, rfl⟩))
    rw [madeb_take y es j (by omega), stepb_yes s1]
    refine ⟨puc_ok h1 s1, s2, fun a ha => s3 a (h3 a ha), fun i hi => ?_⟩
    by_cases e : i = j
    · subst e; exact s4
    · exact s3 _ (h4 i (by omega))
theorem way_done {b x y : Bok} {d : List En} (h : OInv b x d) (hw : Way b x y) : puc y d d.length = 0 ∧ madeb y d = x := by
  obtain ⟨h1, h2, _, h4⟩ := way_all h hw d (fun _ h => h) d.length (Nat.le_refl _)
  rw [List.take_length] at h2 h4
  refine ⟨h1, h2.done h fun e he => ?_⟩
  obtain ⟨i, hi, rfl⟩ := ne_mem.1 he
  exact h4 i hi
theorem way_end {b x : Bok} {d : List En} (hb : BOk b) (h : OInv b x d) : Way b x x := ⟨h.ok, h.ac, h.sh, h.sub, fun _ h => h⟩
theorem runc_zero {b : Bok} {ps : List Pln} {day : Int} (h : runc b ps day = 0) : bookc b = 0 ∧ plc ps = 0 ∧ puc b (dueP ps day) (dueP ps day).length = 0 := by
  unfold runc at h
  split at h
  · exact absurd h (by assumption)
  rename_i h1
  split at h
  · exact absurd h (by assumption)
  rename_i h2
  exact ⟨by simpa using h1, by simpa using h2, h⟩
theorem runc_of {b : Bok} {ps : List Pln} {day : Int} (h1 : BOk b) (h2 : plc ps = 0) (h3 : puc b (dueP ps day) (dueP ps day).length = 0) : runc b ps day = 0 := by
  unfold runc
  rw [if_neg (by simp [(bookc_iff b).2 h1]), if_neg (by simp [h2]), h3]
/-- run twice, and in two steps -/
theorem run_twice {b : Bok} {ps : List Pln} {i k : Int} (hik : i ≤ k) (h : runc b ps k = 0) :
    bookc (madeb b (dueP ps k)) = 0 ∧ runc (madeb b (dueP ps k)) ps k = 0 ∧ madeb (madeb b (dueP ps k)) (dueP ps k) = madeb b (dueP ps k) ∧ runc b ps i = 0 ∧ runc (madeb b (dueP ps i)) ps k = 0 ∧ madeb (madeb b (dueP ps i)) (dueP ps k) = madeb b (dueP ps k) := by
  obtain ⟨h1, h2, h3⟩ := runc_zero h
  have hb := (bookc_iff b).1 h1
  have hO := puc_all hb h3
  obtain ⟨a1, a2⟩ := way_done hO (way_end hb hO)
  obtain ⟨b1, b2, _, _⟩ := way_all hO (Way.start hb hO) (dueP ps i) (fun e he => (dueP_grows hik ps).2 e he) (dueP ps i).length (Nat.le_refl _)
  rw [List.take_length] at b2
  obtain ⟨c1, c2⟩ := way_done hO b2
  exact ⟨(bookc_iff _).2 hO.ok, runc_of hO.ok h2 a1, a2, runc_of hb h2 b1, runc_of b2.ok h2 c1, c2⟩

/-- job.Run, whether it is refused or not -/
def RunAny (w : World) (r : Int) (b : Bok) (e : Ending) (w' : World) : Prop := (r ≠ 0 ∧ RunNo w r e w') ∨ (r = 0 ∧ PostYes w b e w')
theorem run_any (A : Option Addr) (n c : Nat) (X : Option Addr) (m k : Nat) (b : Bok) (L : Option Addr) (p q : Nat) (ps : List Pln) (day : Int) (w : World) (hb : Bq w A n c X m k b) (hr : Ps w L ps) (hn : ps.length = p) (hcap : p ≤ q) (hml : q ≤ maxLen) (ht : Tab w) (d0 : 0 ≤ day) (d9 : day ≤ 292193) :
    Calls Tryd.prog 15 #[bv A n c X m k b.shut, .slice L p q, .int .i64 day] w (RunAny w (runc b ps day) (madeb b (dueP ps day))) := by
  by_cases h1 : bookc b = 0
  · by_cases h2 : plc ps = 0
    · have e : runc b ps day = puc b (dueP ps day) (dueP ps day).length := by unfold runc; rw [if_neg (by simp [h1]), if_neg (by simp [h2])]
      rw [e]
      exact run_go A n c X m k b L p q ps day w hb hr hn hcap hml ht d0 d9 h1 h2
    · have e : runc b ps day = plc ps := by unfold runc; rw [if_neg (by simp [h1]), if_pos h2]
      rw [e]
      exact (run_bad2 A n c X m k b L p q ps day w hb hr hn hcap hml ht d0 d9 h1 h2).mono fun _ _ h => .inl ⟨h2, h⟩
  · have e : runc b ps day = bookc b := by unfold runc; rw [if_pos h1]
    rw [e]
    exact (run_bad1 A n c X m k b L p q ps day w hb hr hn hcap hml ht d0 d9 h1).mono fun _ _ h => .inl ⟨h1, h⟩
theorem run_yes (A : Option Addr) (n c : Nat) (X : Option Addr) (m k : Nat) (b : Bok) (L : Option Addr) (p q : Nat) (ps : List Pln) (day : Int) (w : World) (hb : Bq w A n c X m k b) (hr : Ps w L ps) (hn : ps.length = p) (hcap : p ≤ q) (hml : q ≤ maxLen) (ht : Tab w) (d0 : 0 ≤ day) (d9 : day ≤ 292193) (hc : runc b ps day = 0) :
    Calls Tryd.prog 15 #[bv A n c X m k b.shut, .slice L p q, .int .i64 day] w (PostYes w (madeb b (dueP ps day))) := by
  refine (run_any A n c X m k b L p q ps day w hb hr hn hcap hml ht d0 d9).mono fun e w' h => ?_
  rcases h with ⟨h, _⟩ | ⟨_, h⟩
  · exact absurd hc h
  · exact h
theorem due40 : dueP [plA 0 10 2] 40 = [⟨pk kp 0, 3, [(s50, 5), (s10, -5)]⟩, ⟨pk kp 1, 34, [(s50, 5), (s10, -5)]⟩] := by
  have p0 : partP (plA 0 10 2) 0 = 5 := by decide +kernel
  have p1 : partP (plA 0 10 2) 1 = 5 := by decide +kernel
  rw [dueP_one]
  show dueK (plA 0 10 2) 40 2 = _
  have e0 : ad (plA 0 10 2).frm ((0 : Nat) : Int) = 3 := ad30
  have e1 : ad (plA 0 10 2).frm ((1 : Nat) : Int) = 34 := ad31
  simp only [dueK, mkE, e0, e1, p0, p1]
  rfl
def runB : Bok := madeb plainB [⟨pk kp 0, 3, [(s50, 5), (s10, -5)]⟩, ⟨pk kp 1, 34, [(s50, 5), (s10, -5)]⟩]
theorem run40 : runc plainB [plA 0 10 2] 40 = 0 ∧ madeb plainB (dueP [plA 0 10 2] 40) = runB ∧ runB.en.length = 2 ∧ (ne runB.en 0).key = { data := #[112, 45, 48, 48] } ∧ runB.shut = -1 := by
  have h := plA_ok (kind := 0) (amt := 10) (num := 2) (.inl rfl) (by omega) (by omega) (by omega) (by omega)
  have hp : puc plainB [⟨pk kp 0, 3, [(s50, 5), (s10, -5)]⟩, ⟨pk kp 1, 34, [(s50, 5), (s10, -5)]⟩] 2 = 0 := by decide +kernel
  refine ⟨runc_of ((bookc_iff _).1 (by decide +kernel)) h (by rw [due40]; exact hp), by rw [due40]; rfl, by decide +kernel, by decide +kernel, by decide +kernel⟩

end Go.Proofs.YtfmlkhppcepeiaaDoor

/- The walk of talkeep.JobTwice. -/
namespace Go.Proofs.YtfmlkhppcepeiaaDoor.jobTwice
open Go.ChangeShapes Go.WideShapes Go.ChangeAt Go.RowKit Go.PlainAid
set_option linter.unusedVariables false

set_option maxRecDepth 100000 in
set_option maxHeartbeats 6400000 in
theorem jobTwice_walk (w : World) (ht : Tab w) (A : Option Addr) (n c : Nat) (X : Option Addr) (m k0 : Nat) (b : Bok) (hb : Bq w A n c X m k0 b) (L : Option Addr) (p q : Nat) (ps : List Pln) (hl : Ps w L ps ∧ ps.length = p ∧ p ≤ q ∧ q ≤ maxLen ∧ (L = none → p = 0)) (v1 : Int) (w1 : (Lit.int .i64 v1).wf = true) (v2 : Int) (w2 : (Lit.int .i64 v2).wf = true) :
    Calls Tryd.prog 6 #[bv A n c X m k0 b.shut, .slice L p q, .int .i64 v1, .int .i64 v2] w fun e w' => e = .returned (.bool true) ∧ Below w.heap.size w w' := by
  obtain ⟨hps, hpn, hpq, hqm, -⟩ := hl
  have t0 := wi_lo v1 292194 (by omega)
  have t1 := wi_hi v1 292194 (by omega)
  have u0 := wi_lo v2 292194 (by omega)
  have u1 := wi_hi v2 292194 (by omega)
  have HD1 := Lib.hid (fun w => day_any v1 w)
  have HD2 := Lib.hid (fun w => day_any v2 w)
  generalize wi v1 292194 = t at *
  generalize wi v2 292194 = u at *
  obtain ⟨i, hi⟩ : ∃ i, min t u = i := ⟨_, rfl⟩
  obtain ⟨k, hk⟩ : ∃ q, max t u = q := ⟨_, rfl⟩
  have i0 : 0 ≤ i ∧ i ≤ 292193 ∧ 0 ≤ k ∧ k ≤ 292193 ∧ i ≤ k := by rw [← hi, ← hk]; omega
  obtain ⟨i0, i1, k0', k1, hik⟩ := i0
  have HT := Lib.hid (fun w' (h : Mor w w') => ht.mor h)
  have HPs := Lib.hid (fun w' (h : Mor w w') => hps.mor h)
  have HB := Lib.hid (fun w' (h : Mor w w') => hb.mor h)
  have HSh := Lib.hid (show ∀ es, (madeb b es).shut = b.shut from fun es => (madeb_ac b es).2)
  have HTw := Lib.hid (fun (h : runc b ps k = 0) => run_twice hik h)
  generalize hsh : b.shut = sh at *
  have HB0 := Lib.hid hsh
  clear hb w1 w2 hps ht hsh
  go_enter Tryd.func6, Tryd.ntmps6
  go_wp2_with fail
  have hm0 := ((Mor.refl w).alloc (o := .cells #[.slice A n c, .slice X m k0, .int .i64 sh] 45)).alloc (o := .cells #[.string kp, .int .i64 0, .int .i64 3, .int .i64 10, .int .i64 2, .string s50, .string s10] 24)
  have hP0 := (Bk.new w 45 #[.slice A n c, .slice X m k0, .int .i64 sh]).alloc (.cells #[.string kp, .int .i64 0, .int .i64 3, .int .i64 10, .int .i64 2, .string s50, .string s10] 24)
  have hL0 := Bk.new (w.alloc (.cells #[.slice A n c, .slice X m k0, .int .i64 sh] 45)) 24 #[.string kp, .int .i64 0, .int .i64 3, .int .i64 10, .int .i64 2, .string s50, .string s10]
  rw [← sz1] at hL0
  obtain ⟨bP, hbP⟩ : ∃ g, g = w.heap.size := ⟨_, rfl⟩
  rw [← hbP] at hP0 hL0 ⊢
  obtain ⟨bL, hbL⟩ : ∃ g, g = bP + 1 := ⟨_, rfl⟩
  rw [← hbL] at hL0 ⊢
  generalize (w.alloc (.cells #[.slice A n c, .slice X m k0, .int .i64 sh] 45)).alloc (.cells #[.string kp, .int .i64 0, .int .i64 3, .int .i64 10, .int .i64 2, .string s50, .string s10] 24) = w0 at *
  have hwP : w.heap.size ≤ bP := by omega
  have HP := Lib.hid (fun w' (h : Mor w0 w') => hP0.mor h)
  have HL := Lib.hid (fun w' (h : Mor w0 w') => Ps.lit (hL0.mor h) (plA_wf (kind := 0) (amt := 10) (num := 2) (.inl rfl) (by omega) (by omega) (by omega) (by omega)))
  have HM0 := Lib.hid hm0
  clear hbP hbL hP0 hL0 hm0
  refine (plain_any _).mono ?_
  rintro e w3 ⟨g, rfl, hq, hm⟩
  have HM3 := Lib.hid hm
  have HQ := Lib.hid hq
  clear hm hq
  go_wp2_with fail
  refine (run_yes (some ⟨g, 0, none⟩) 5 5 none 0 0 plainB (some ⟨bL, 0, none⟩) 1 1 [plA 0 10 2] 40 w3 HQ.out (HL.out _ HM3.out) rfl (Nat.le_refl _) (by unfold maxLen; omega) (HT.out _ (HM0.out.trans' HM3.out)) (by omega) (by omega) run40.1).mono ?_
  intro e w4 h4
  obtain ⟨A4, n4, c4, X4, m4, k4, rfl, hq4, ho4, hm⟩ := postYes_bq h4
  rw [run40.2.1] at hq4 ho4 ⊢
  rw [run40.2.2.2.2]
  have hm42 : m4 = 2 := by rw [← hq4.length, run40.2.2.1]
  subst hm42
  obtain ⟨qs, hes⟩ := ho4.es
  obtain ⟨gE, kE, eE, -, hkE, glE, d0, -⟩ := hes.cells 0 (by omega)
  injection eE with eE1 _ eE3
  subst eE1 eE3
  rw [run40.2.2.2.1] at d0
  simp at d0
  have HM4 := Lib.hid (HM3.out.trans' hm)
  clear h4 hq4 ho4 hm hes
  unfold maxLen at hkE
  have hX4 := Bk.new w4 45 #[.slice A4 n4 c4, .slice (some ⟨gE, 0, none⟩) 2 k4, .int .i64 (-1)]
  have hM5 := (HM4.out).alloc (o := .cells #[.slice A4 n4 c4, .slice (some ⟨gE, 0, none⟩) 2 k4, .int .i64 (-1)] 45)
  have hP4 := HP.out _ HM4.out
  have p0 := hP4.cell 0
  have p1 := hP4.cell 1
  have p2 := hP4.cell 2
  have pl := hP4.lt
  simp at p0 p1 p2
  clear hP4
  go_wp2_with (first | (go_at_call 8; (with_reducible refine (HD1.out _).mono ?_); rintro e w6 ⟨rfl, rfl⟩) | (go_at_call 8; (with_reducible refine (HD2.out _).mono ?_); rintro e w6 ⟨rfl, rfl⟩))
  clear hi hk t0 t1 u0 u1 HD1 HD2 d0 glE p0 p1 p2 pl
  obtain ⟨bX, hbX⟩ : ∃ g, g = w4.heap.size := ⟨_, rfl⟩
  rw [← hbX] at hX4 ⊢
  have hPX : bP < bX := by have := (HP.out _ HM4.out).lt; omega
  have hwX : w.heap.size ≤ bX := by omega
  have hg0X : w0.heap.size ≤ bX := by have := HM4.out.below.size; omega
  generalize w4.alloc (.cells #[.slice A4 n4 c4, .slice (some ⟨gE, 0, none⟩) 2 k4, .int .i64 (-1)] 45) = w5 at *
  have HX5 := Lib.hid hX4
  have HM5 := Lib.hid hM5
  clear hX4 hM5 HM4 hbX HM3 HQ
  have hRun := run_any A n c X m k0 b L p q ps k w5 (HB.out _ (HM0.out.trans' HM5.out)) (HPs.out _ (HM0.out.trans' HM5.out)) hpn hpq hqm (HT.out _ (HM0.out.trans' HM5.out)) (by omega) k1
  rw [HB0.out] at hRun
  refine hRun.mono ?_
  clear hRun
  intro e w6 h6
  rcases h6 with ⟨hne, rfl, hm⟩ | ⟨hrz, h6⟩
  · have hb : (runc b ps k != 0) = true := by simpa using hne
    have hX6 := HX5.out.mor hm
    have x0 := hX6.cell 0
    have x1 := hX6.cell 1
    have x2 := hX6.cell 2
    have xl := hX6.lt
    simp at x0 x1 x2
    have f0 := hX6.frozen 0
    have f1 := hX6.frozen 1
    have f2 := hX6.frozen 2
    have hm9 := ((((HM0.out.trans' HM5.out).trans' hm).setC (i := 0) (u := .slice none 0 0) hwX).setC (i := 1) (u := .slice none 0 0) hwX).setC (i := 2) (u := .int .i64 0) hwX
    have HM9 := Lib.hid hm9
    clear hX6 hm hm9 hne
    generalize runc b ps k = r at *
    go_wp2_with fail
    go_ret
    exact ⟨by simp, HM9.out.below⟩
  · obtain ⟨A6, n6, c6, X6, m6, k6, rfl, hq6, ho6, hm⟩ := postYes_bq h6
    rw [HSh.out]
    obtain ⟨tw1, tw2, tw3, tw4, tw5, tw6⟩ := HTw.out hrz
    have hx := HSh.out (dueP ps k)
    have hz := HSh.out (dueP ps i)
    have HC1 := Lib.hid tw1
    have HC2 := Lib.hid tw2
    have HC4 := Lib.hid tw4
    have HC5 := Lib.hid tw5
    have HE3 := Lib.hid tw3
    have HE6 := Lib.hid tw6
    have HHx := Lib.hid hx
    have HHz := Lib.hid hz
    have hX6 := HX5.out.mor hm
    have hO6 : Bq (((w6.setCell ⟨bX, 0, none⟩ (.slice A6 n6 c6)).setCell ⟨bX, 1, none⟩ (.slice X6 m6 k6)).setCell ⟨bX, 2, none⟩ (.int .i64 sh)) A6 n6 c6 X6 m6 k6 (madeb b (dueP ps k)) := own_bq (own3 ho6 hX6)
    have hX7 := ((hX6.set_ 0 (.slice A6 n6 c6)).set_ 1 (.slice X6 m6 k6)).set_ 2 (.int .i64 sh)
    simp only [List.setIfInBounds_toArray, List.set_cons_zero, List.set_cons_succ] at hX7
    have hM7 := (((HM5.out.trans' hm).setC (i := 0) (u := .slice A6 n6 c6) hg0X).setC (i := 1) (u := .slice X6 m6 k6) hg0X).setC (i := 2) (u := .int .i64 sh) hg0X
    obtain ⟨w7, hw7⟩ : ∃ w7, w7 = (((w6.setCell ⟨bX, 0, none⟩ (.slice A6 n6 c6)).setCell ⟨bX, 1, none⟩ (.slice X6 m6 k6)).setCell ⟨bX, 2, none⟩ (.int .i64 sh)) := ⟨_, rfl⟩
    have hP7 : Bk w7 bP 45 #[.slice A n c, .slice X m k0, .int .i64 sh] := by
      rw [hw7]
      exact (((HP.out _ (HM5.out.trans' hm)).set_other bX 0 _ (by omega)).set_other bX 1 _ (by omega)).set_other bX 2 _ (by omega)
    rw [← hw7] at hO6 hX7 hM7
    have HW7 := Lib.hid hw7
    have HX7 := Lib.hid (fun w' (h : Mor w7 w') => hX7.mor h)
    have HP7 := Lib.hid (fun w' (h : Mor w7 w') => hP7.mor h)
    have HQ7 := Lib.hid (fun w' (h : Mor w7 w') => hO6.mor h)
    have HM7 := Lib.hid (HM0.out.trans' hM7)
    have x0 := hX6.cell 0
    have x1 := hX6.cell 1
    have x2 := hX6.cell 2
    have xl := hX6.lt
    simp at x0 x1 x2
    have f0 := hX6.frozen 0
    have f1 := hX6.frozen 1
    have f2 := hX6.frozen 2
    clear h6 hq6 ho6 hm hX6 hO6 hX7 hM7 hP7 hw7 tw1 tw2 tw3 tw4 tw5 tw6 hx hz hrz HSh HTw HX5 HM5
    generalize hxe : madeb b (dueP ps k) = x at *
    generalize hze : madeb b (dueP ps i) = z at *
    go_wp2_with fail
    rw [← HW7.out]
    have hR7 := run_yes A6 n6 c6 X6 m6 k6 x L p q ps k w7 (HQ7.out _ (Mor.refl _)) (HPs.out _ HM7.out) hpn hpq hqm (HT.out _ HM7.out) (by omega) k1 HC2.out
    rw [HHx.out, HE3.out] at hR7
    refine hR7.mono ?_
    clear hR7
    intro e w8 h8
    obtain ⟨A8, n8, c8, X8, m8, k8, rfl, hq8, ho8, hm⟩ := postYes_bq h8
    rw [HHx.out]
    have HQ8 := Lib.hid (fun w' (h : Mor w8 w') => hq8.mor h)
    have HM8 := Lib.hid hm
    have hP8 := HP7.out _ hm
    have hn8 : n8 = n6 := by rw [← hq8.ac.length, ← (HQ7.out _ (Mor.refl _)).ac.length]
    have hm8 : m8 = m6 := by rw [← hq8.length, ← (HQ7.out _ (Mor.refl _)).length]
    subst hn8 hm8
    clear x0 x1 x2 xl f0 f1 f2
    have p0 := hP8.cell 0
    have p1 := hP8.cell 1
    have p2 := hP8.cell 2
    have pl := hP8.lt
    simp at p0 p1 p2
    clear h8 hq8 ho8 hm hP8
    go_wp2_with fail
    have hY8 := Bk.new w8 45 #[.slice A8 n8 c8, .slice X8 m8 k8, .int .i64 sh]
    have hM8 := (Mor.refl w8).alloc (o := .cells #[.slice A8 n8 c8, .slice X8 m8 k8, .int .i64 sh] 45)
    obtain ⟨bY, hbY⟩ : ∃ g, g = w8.heap.size := ⟨_, rfl⟩
    rw [← hbY] at hY8 ⊢
    clear hbY
    generalize w8.alloc (.cells #[.slice A8 n8 c8, .slice X8 m8 k8, .int .i64 sh] 45) = w9 at *
    have HY := Lib.hid (fun w' (h : Mor w9 w') => hY8.mor h)
    have HM9 := Lib.hid (HM8.out.trans' hM8)
    have HM89 := Lib.hid hM8
    clear hY8 hM8 p0 p1 p2 pl HM8
    have hR9 := run_yes A n c X m k0 b L p q ps i w9 (HB.out _ (HM7.out.trans' HM9.out)) (HPs.out _ (HM7.out.trans' HM9.out)) hpn hpq hqm (HT.out _ (HM7.out.trans' HM9.out)) i0 i1 HC4.out
    rw [HB0.out, hze] at hR9
    refine hR9.mono ?_
    clear hR9
    intro e w10 h10
    obtain ⟨A10, n10, c10, X10, m10, k10, rfl, hq10, ho10, hm⟩ := postYes_bq h10
    rw [HHz.out]
    have HQ10 := Lib.hid (fun w' (h : Mor w10 w') => hq10.mor h)
    have HM10 := Lib.hid hm
    clear h10 hq10 ho10 hm
    go_wp2_with fail
    have hM10 := (HM10.out).alloc (o := .cells #[.slice A10 n10 c10, .slice X10 m10 k10, .int .i64 sh] 45)
    have hM1011 := (Mor.refl w10).alloc (o := .cells #[.slice A10 n10 c10, .slice X10 m10 k10, .int .i64 sh] 45)
    generalize w10.alloc (.cells #[.slice A10 n10 c10, .slice X10 m10 k10, .int .i64 sh] 45) = w11 at *
    have HM911 := Lib.hid hM10
    have hR11 := run_yes A10 n10 c10 X10 m10 k10 z L p q ps k w11 (HQ10.out _ hM1011) (HPs.out _ (HM7.out.trans' (HM9.out.trans' hM10))) hpn hpq hqm (HT.out _ (HM7.out.trans' (HM9.out.trans' hM10))) (by omega) k1 HC5.out
    rw [HHz.out, HE6.out] at hR11
    clear hM10 hM1011
    refine hR11.mono ?_
    clear hR11
    intro e w12 h12
    obtain ⟨A12, n12, c12, X12, m12, k12, rfl, hq12, ho12, hm⟩ := postYes_bq h12
    rw [HHx.out]
    have hn12 : n12 = n8 := by rw [← hq12.ac.length, ← (HQ7.out _ (Mor.refl _)).ac.length]
    have hm12 : m12 = m8 := by rw [← hq12.length, ← (HQ7.out _ (Mor.refl _)).length]
    subst hn12 hm12
    have HQ12 := Lib.hid (fun w' (h : Mor w12 w') => hq12.mor h)
    have HM912 := Lib.hid (HM911.out.trans' hm)
    clear h12 hq12 ho12 hm
    have hY := HY.out _ HM912.out
    have hX := HX7.out _ (HM9.out.trans' HM912.out)
    have y0 := hY.cell 0
    have y1 := hY.cell 1
    have y2 := hY.cell 2
    have yl := hY.lt
    simp at y0 y1 y2
    have x0 := hX.cell 0
    have x1 := hX.cell 1
    have x2 := hX.cell 2
    have xl := hX.lt
    simp at x0 x1 x2
    clear hY hX
    have HS1 := Lib.hid (fun w' (h : Mor w12 w') => samebook_yes A8 A6 n12 c8 c6 X8 X6 m12 k8 k6 sh x w' (HQ8.out _ (HM89.out.trans' (HM912.out.trans' h))) (HQ7.out _ (HM9.out.trans' (HM912.out.trans' h))))
    have HS2 := Lib.hid (fun w' (h : Mor w12 w') => samebook_yes A12 A6 n12 c12 c6 X12 X6 m12 k12 k6 sh x w' (HQ12.out _ h) (HQ7.out _ (HM9.out.trans' (HM912.out.trans' h))))
    have HBc := Lib.hid (fun w' (h : Mor w12 w') => show Calls Tryd.prog 18 #[bv A6 n12 c6 X6 m12 k6 sh] w' (fun e w'' => e = .returned (.int .i64 0) ∧ Mor w' w'') by
      have h2 := bcheck_any A6 n12 c6 X6 m12 k6 x w' (HQ7.out _ (HM9.out.trans' (HM912.out.trans' h)))
      rw [HHx.out, HC1.out] at h2
      exact h2)
    go_wp2_with fail
    have hW := Bk.new w12 45 #[.slice A12 n12 c12, .slice X12 m12 k12, .int .i64 sh]
    have hM12 := (Mor.refl w12).alloc (o := .cells #[.slice A12 n12 c12, .slice X12 m12 k12, .int .i64 sh] 45)
    obtain ⟨bW, hbW⟩ : ∃ g, g = w12.heap.size := ⟨_, rfl⟩
    rw [← hbW] at hW ⊢
    clear hbW
    generalize w12.alloc (.cells #[.slice A12 n12 c12, .slice X12 m12 k12, .int .i64 sh] 45) = w13 at *
    have HW := Lib.hid (fun w' (h : Mor w13 w') => hW.mor h)
    have HM13 := Lib.hid hM12
    have HX13 := Lib.hid (fun w' (h : Mor w13 w') => HX7.out _ (HM9.out.trans' (HM912.out.trans' (hM12.trans' h))))
    clear hW hM12 x0 x1 x2 xl y0 y1 y2 yl
    refine (HS1.out _ HM13.out).mono ?_
    rintro e w14 ⟨rfl, hm⟩
    have HM14 := Lib.hid hm
    have hX := HX13.out _ hm
    have hW := HW.out _ hm
    have x0 := hX.cell 0
    have x1 := hX.cell 1
    have x2 := hX.cell 2
    have xl := hX.lt
    simp at x0 x1 x2
    have y0 := hW.cell 0
    have y1 := hW.cell 1
    have y2 := hW.cell 2
    have yl := hW.lt
    simp at y0 y1 y2
    clear hm hX hW
    go_wp2_with fail
    refine (HS2.out _ (HM13.out.trans' HM14.out)).mono ?_
    rintro e w15 ⟨rfl, hm⟩
    have HM15 := Lib.hid (HM14.out.trans' hm)
    have hX := HX13.out _ HM15.out
    clear x0 x1 x2 xl y0 y1 y2 yl
    have x0 := hX.cell 0
    have x1 := hX.cell 1
    have x2 := hX.cell 2
    have xl := hX.lt
    simp at x0 x1 x2
    clear hm hX
    go_wp2_with fail
    refine (HBc.out _ (HM13.out.trans' HM15.out)).mono ?_
    rintro e w16 ⟨rfl, hm⟩
    have HM16 := Lib.hid (((HM7.out.trans' (HM9.out.trans' HM912.out)).trans' HM13.out).trans' (HM15.out.trans' hm))
    clear hm x0 x1 x2 xl
    go_wp2_with fail
    go_ret
    exact ⟨by simp, HM16.out.below⟩

end Go.Proofs.YtfmlkhppcepeiaaDoor.jobTwice
