/- job.Due, whether the plans are good or not; plans that a law lays itself; ContainsFunc with R.Same. -/
import Derived.Test.YtfmlkhppcepeiaaDoorPJobAllZ1
import Derived.Test.YtfmlkhppcepeiaaDoorPJobAllZ2
import Derived.Test.YtfmlkhppcepeiaaDoorPJobAllZ3
import Derived.Test.YtfmlkhppcepeiaaDoorPJobAllZ4
import Derived.Test.YtfmlkhppcepeiaaDoorPJobAllZ5
import Derived.Test.YtfmlkhppcepeiaaDoorPJobAllZ6
import Derived.Test.YtfmlkhppcepeiaaDoorPJobAllZ7
import Derived.Test.YtfmlkhppcepeiaaDoorPJobAllZ8
import Derived.Test.YtfmlkhppcepeiaaDoorPJobAllZ9
import Derived.Test.YtfmlkhppcepeiaaDoorPJobAllZ10
import Derived.Test.YtfmlkhppcepeiaaDoorPJobAllZ11
import Derived.Test.YtfmlkhppcepeiaaDoorPJobAllZ12
import Derived.Test.YtfmlkhppcepeiaaDoorPJobAllZ13
import Derived.Test.YtfmlkhppcepeiaaDoorPJobAllZ14
import Derived.Test.YtfmlkhppcepeiaaDoorPJobAllZ15
import Derived.Test.YtfmlkhppcepeiaaDoorPJobAllZ16
import Derived.Test.YtfmlkhppcepeiaaDoorPJobAllZ17
import Derived.Test.YtfmlkhppcepeiaaDoorPJobAllZ18
import Derived.Test.YtfmlkhppcepeiaaDoorPJobAllZ19
import Derived.Test.YtfmlkhppcepeiaaDoorPJobAllZ20
import Derived.Test.YtfmlkhppcepeiaaDoorPJobAllZ21
import Derived.Test.YtfmlkhppcepeiaaDoorPJobAllZ22
import Derived.Test.YtfmlkhppcepeiaaDoorPJobAllZ23
import Derived.Test.YtfmlkhppcepeiaaDoorPJobAllZ24
import Derived.Test.YtfmlkhppcepeiaaDoorPJobAllZ25
import Derived.Test.YtfmlkhppcepeiaaDoorPJobAllZ26
import Derived.Test.YtfmlkhppcepeiaaDoorPJobAllZ27
import Derived.Test.YtfmlkhppcepeiaaDoorPJobAllZ28
import Derived.Test.YtfmlkhppcepeiaaDoorRows
import Derived.BigQuiet
import Derived.BigRegion
import Derived.Carry
import Derived.DataElems
import Derived.Deep.DeepCutAuto
import Derived.Deep.LoopGhost
import Derived.Deep.OwnRows
import Derived.Deep.QuietTactic
import Derived.Deep.RegionHeld3
import Derived.Deep.RegionLaw
import Derived.Deep.RegionWith
import Derived.Deep.SlicePairs
import Derived.Deep.Slices
import Derived.Deep.Strs
import Derived.Handy
import Derived.IntWalk
import Derived.Laws.AppendOwn
import Derived.Laws.BytesArg
import Derived.Laws.CopyOwn
import Derived.Laws.CopyRow
import Derived.Laws.Cover1
import Derived.Laws.Externs
import Derived.Laws.NewBlocks
import Derived.Laws.OwnMore
import Derived.Laws.StandIn
import Derived.Lib.AppendZerosOnto
import Derived.Lib.Bytealg
import Derived.Lib.Hide
import Derived.Lib.LaidTab
import Derived.Lib.Overlaps
import Derived.Lib.SliceRun
import Derived.Lib.Walk
import Derived.Maps.Own
import Derived.Maps.OwnSet
import Derived.Maps.Views
import Derived.OpenShut
import Derived.Outline
import Derived.OwnWalk
import Derived.PlainAid
import Derived.ProofKit
import Derived.RegionTactic
import Derived.Shelf.Abstract
import Derived.Shelf.RegionOpenPlain
import Derived.Sort.Walk0
import Derived.StringKeys
import Derived.WalkKit
import Derived.WalkSpells
namespace Go.Proofs.YtfmlkhppcepeiaaDoor
open Go.ChangeShapes Go.WideShapes Go.ChangeAt Go.RowKit Go.PlainAid
set_option linter.unusedVariables false

set_option maxRecDepth 100000 in
set_option maxHeartbeats 1600000 in
theorem due_no (A : Option Addr) (n cap : Nat) (ps : List Pln) (day : Int) (w : World) (hr : Ps w A ps) (hn : ps.length = n) (hcap : n ≤ cap) (hml : cap ≤ maxLen) (ht : Tab w) (hc : plc ps ≠ 0) :
    Calls Tryd.prog 7 #[.slice A n cap, .int .i64 day] w fun e w' => e = .returned (.tuple #[.slice none 0 0, .int .i64 (plc ps)]) ∧ Mor w w' := by
  have HCk := Lib.hid (fun w' (h : Mor w w') => plc_any A n cap ps w' (hr.mor h) hn hcap hml (ht.mor h))
  generalize plc ps = r at *
  have hb : (r != 0) = true := by simpa using hc
  clear hr ht hn
  go_enter Tryd.func7, Tryd.ntmps7
  go_wp2_with (first | (go_at_call 19; (with_reducible refine (HCk.out _ (Mor.refl _)).mono ?_); rintro e w1 ⟨rfl, hm1⟩))
  have HM := Lib.hid hm1
  clear hm1
  go_returns
  exact ⟨rfl, HM.out⟩
/-- what is due, or nothing -/
noncomputable def duev (ps : List Pln) (day : Int) : List En := if plc ps = 0 then dueP ps day else []
theorem duev_ok {ps : List Pln} {day : Int} (h : plc ps = 0) : duev ps day = dueP ps day := by unfold duev; rw [if_pos h]
theorem duev_no {ps : List Pln} {day : Int} (h : plc ps ≠ 0) : duev ps day = [] := by unfold duev; rw [if_neg h]
theorem due_any (A : Option Addr) (n cap : Nat) (ps : List Pln) (day : Int) (w : World) (hr : Ps w A ps) (hn : ps.length = n) (hcap : n ≤ cap) (hml : cap ≤ maxLen) (ht : Tab w) (d0 : 0 ≤ day) (d9 : day ≤ 292193) :
    Calls Tryd.prog 7 #[.slice A n cap, .int .i64 day] w fun e w' => ∃ X m k qs, e = .returned (.tuple #[.slice X m k, .int .i64 (plc ps)]) ∧ (duev ps day).length = m ∧ OwnEs w' w.heap.size (.slice X m k) m qs (duev ps day) ∧ Mor w w' := by
  by_cases h : plc ps = 0
  · refine (due_ok A n cap ps day w hr hn hcap hml ht h d0 d9).mono ?_
    rintro e w' ⟨v, qs, rfl, ho, hm⟩
    rw [duev_ok h, h]
    obtain ⟨X, k, rfl, _⟩ := ho.shape
    exact ⟨X, _, k, qs, rfl, rfl, ho, hm⟩
  · refine (due_no A n cap ps day w hr hn hcap hml ht h).mono ?_
    rintro e w' ⟨rfl, hm⟩
    rw [duev_no h]
    exact ⟨none, 0, 0, [], rfl, rfl, ⟨World.ownsRow_nil _ _ _ _, rfl, rfl, fun i hi => absurd hi (Nat.not_lt_zero _)⟩, hm⟩

/-- the cells of an entry of one's own -/
theorem OwnEs.cells {w : World} {base : Nat} {v : Value} {m : Nat} {qs : List Ev} {es : List En} (h : OwnEs w base v m qs es) (i : Nat) (hi : i < m) :
    ∃ g k, v = .slice (some ⟨g, 0, none⟩) m k ∧ m ≤ k ∧ k ≤ maxLen ∧ g < w.heap.size ∧ w.cell? ⟨g, i * 3, none⟩ = some (.string (ne es i).key) ∧ w.cell? ⟨g, i * 3 + 1, none⟩ = some (.int .i64 (ne es i).day) ∧ w.cell? ⟨g, i * 3 + 2, none⟩ = some (.slice (qe qs i).A (qe qs i).n (qe qs i).c) ∧ OwnE w base (qe qs i) (ne es i) := by
  have hr := h.row
  have hE := h.ent i hi
  obtain ⟨hlen, hh | ⟨g, cap, cur, rfl, hg, hb, h1, h2, h3, h4⟩⟩ := hr
  · obtain ⟨_, rfl⟩ := hh; omega
  · refine ⟨g, cap, rfl, h1, h2, (Array.getElem?_eq_some_iff.1 hb).1, ?_⟩
    have hi' : i < qs.length := by rw [h.ql]; exact hi
    obtain ⟨b', o', hA', _, hc⟩ := Rd.field 3 ec_len (Rd.own h.row) i hi' (by omega)
    injection hA' with hA'
    injection hA' with e1 e2
    subst e1 e2
    have c0 := hc 0 (by omega)
    have c1 := hc 1 (by omega)
    have c2 := hc 2 (by omega)
    have eq1 : qs[i] = qe qs i := (qe_eq qs i hi').symm
    refine ⟨?_, ?_, ?_, hE⟩
    · rw [← hE.key, ← eq1]; simpa [ec] using c0
    · rw [← hE.day, ← eq1]; simpa [ec] using c1
    · rw [← eq1]; simpa [ec] using c2
/-- an entry of two lines, and its first line -/
theorem OwnEs.line {w : World} {base : Nat} {v : Value} {m : Nat} {qs : List Ev} {es : List En} (h : OwnEs w base v m qs es) (i : Nat) (hi : i < m) (hl : (ne es i).ls.length = 2) :
    ∃ g k g2 c, v = .slice (some ⟨g, 0, none⟩) m k ∧ m ≤ k ∧ k ≤ maxLen ∧ g < w.heap.size ∧ g2 < w.heap.size ∧ w.cell? ⟨g, i * 3, none⟩ = some (.string (ne es i).key) ∧ w.cell? ⟨g, i * 3 + 1, none⟩ = some (.int .i64 (ne es i).day) ∧ w.cell? ⟨g, i * 3 + 2, none⟩ = some (.slice (some ⟨g2, 0, none⟩) 2 c) ∧
      w.cell? ⟨g2, 0, none⟩ = some (.string (cd (ne es i).ls 0)) ∧ w.cell? ⟨g2, 1, none⟩ = some (.int .i64 (am (ne es i).ls 0)) ∧ Lq w (some ⟨g2, 0, none⟩) 2 c (ne es i).ls ∧ (ne es i).key.size ≤ maxLen := by
  obtain ⟨g, k, e, h1, h2, gl, c0, c1, c2, hE⟩ := h.cells i hi
  have hn : (qe qs i).n = 2 := by rw [← hE.len]; exact hl
  have hq := hE.lq
  have hks := hE.ks
  have hr := hE.row
  rw [hn] at hr c2 hq
  obtain ⟨_, hh | ⟨g2, cap, cur, ev, _, hb, _⟩⟩ := id hr
  · obtain ⟨_, e⟩ := hh; omega
  · injection ev with e1 _ e3
    rw [e1] at hr c2 hq
    have l0 := World.ownsRow.cellAt hr 0 (by omega)
    have l1 := World.ownsRow.cellAt hr 1 (by omega)
    generalize ne es i = y at *
    obtain ⟨ky, dy, ls⟩ := y
    match ls, hl with
    | [a, b], _ => exact ⟨g, k, g2, (qe qs i).c, e, h1, h2, gl, (Array.getElem?_eq_some_iff.1 hb).1, c0, c1, c2, l0, l1, hq, hks⟩

/-- a plan that a law lays -/
theorem Ps.lit {w : World} {g : Nat} {key : ByteArray} {kind frm amt num : Int} {deb cre : ByteArray} (h : Bk w g 24 #[.string key, .int .i64 kind, .int .i64 frm, .int .i64 amt, .int .i64 num, .string deb, .string cre]) (hw : Pwf ⟨key, kind, frm, amt, num, deb, cre⟩) :
    Ps w (some ⟨g, 0, none⟩) [⟨key, kind, frm, amt, num, deb, cre⟩] := by
  refine .inr ⟨_, rfl, h.lt, fun i hi => ?_⟩
  obtain rfl : i = 0 := by simpa using hi
  have e : (⟨g, 0, none⟩ : Addr).add (0 * 7) = ⟨g, 0, none⟩ := by rw [adds]
  rw [e, show np [(⟨key, kind, frm, amt, num, deb, cre⟩ : Pln)] 0 = ⟨key, kind, frm, amt, num, deb, cre⟩ from rfl]
  exact ⟨hw, by simpa using h.cell 0, by simpa using h.cell 1, by simpa using h.cell 2, by simpa using h.cell 3, by simpa using h.cell 4, by simpa using h.cell 5, by simpa using h.cell 6⟩
theorem plc_one {p : Pln} (h : onec p = 0) : plc [p] = 0 := by
  unfold plc
  rw [if_neg (by simp)]
  show (if plUp [p] 0 ≠ 0 then plUp [p] 0 else plAt [p] 0) = 0
  rw [if_neg (by simp [plUp])]
  unfold plAt
  rw [show np [p] 0 = p from rfl, if_neg (by simp [h])]
  rfl
theorem d3 : IsD 3 0 4 := isD_num 0 4 (by decide) (by decide) (by decide) (by decide) (by decide)
theorem ad30 : ad 3 0 = 3 := ad_zero (by omega) (by omega)
theorem ad31 : ad 3 1 = 34 := by rw [ad_eq]; unfold cut; rw [d3.dk, d3.dm]; decide
abbrev kp : ByteArray := { data := #[112] }
def plA (kind amt num : Int) : Pln := ⟨kp, kind, 3, amt, num, s50, s10⟩
theorem plA_ok {kind amt num : Int} (h1 : kind = 0 ∨ kind = 1) (h2 : 0 ≤ amt) (h3 : amt ≤ 1000000000000) (h4 : 1 ≤ num) (h5 : num ≤ 40) : plc [plA kind amt num] = 0 := by
  apply plc_one
  have a1 : ¬ (keyB kp = false ∨ 9 < kp.size ∨ dashB kp = true) := by decide +kernel
  have a2 : ¬ (codeB s50 = false ∨ codeB s10 = false ∨ s50 = s10) := by decide +kernel
  have a3 : ¬ 9600 ≤ dk 3 + (num - 1) := by rw [d3.dk]; omega
  unfold onec
  rw [if_neg (show ¬ (keyB (plA kind amt num).key = false ∨ 9 < (plA kind amt num).key.size ∨ dashB (plA kind amt num).key = true) from a1), if_neg (by simp only [plA]; omega),
    if_neg (show ¬ (codeB (plA kind amt num).deb = false ∨ codeB (plA kind amt num).cre = false ∨ (plA kind amt num).deb = (plA kind amt num).cre) from a2), if_neg (show ¬ 9600 ≤ dk (plA kind amt num).frm + ((plA kind amt num).num - 1) from a3)]
theorem plA_wf {kind amt num : Int} (h1 : kind = 0 ∨ kind = 1) (h2 : 0 ≤ amt) (h3 : amt ≤ 1000000000000) (h4 : 1 ≤ num) (h5 : num ≤ 40) : Pwf (plA kind amt num) :=
  ⟨by show 1 ≤ maxLen; unfold maxLen; omega, by show 2 ≤ maxLen; unfold maxLen; omega, by show 2 ≤ maxLen; unfold maxLen; omega, by unfold wi64 plA; simp only; omega, by unfold wi64 plA; simp only; omega, by unfold wi64 plA; simp only; omega, by unfold wi64 plA; simp only; omega⟩
theorem due_lit {kind amt num : Int} (h1 : kind = 0 ∨ kind = 1) (h2 : 0 ≤ amt) (h3 : amt ≤ 1000000000000) (h4 : 1 ≤ num) (h5 : num ≤ 40) (g : Nat) (day : Int) (w : World) (h : Bk w g 24 #[.string kp, .int .i64 kind, .int .i64 3, .int .i64 amt, .int .i64 num, .string s50, .string s10]) (ht : Tab w) (d0 : 0 ≤ day) (d9 : day ≤ 292193) :
    Calls Tryd.prog 7 #[.slice (some ⟨g, 0, none⟩) 1 1, .int .i64 day] w fun e w' => ∃ X m k qs, e = .returned (.tuple #[.slice X m k, .int .i64 0]) ∧ (duev [plA kind amt num] day).length = m ∧ OwnEs w' w.heap.size (.slice X m k) m qs (duev [plA kind amt num] day) ∧ Mor w w' := by
  have hd := due_any (some ⟨g, 0, none⟩) 1 1 [plA kind amt num] day w (Ps.lit h (plA_wf h1 h2 h3 h4 h5)) rfl (Nat.le_refl _) (by unfold maxLen; omega) ht d0 d9
  rw [plA_ok h1 h2 h3 h4 h5] at hd
  exact hd
theorem dueP_one (p : Pln) (day : Int) : dueP [p] day = dueK p day p.num.toNat := by unfold dueP; simp [due1]

/-- a closure that says p of the entries es, whose lines it may read -/
def SaysQ (w : World) (g : Nat) (cb : Array Value) (es : List En) (p : Nat → Bool) : Prop :=
  ∀ (i : Nat) (w1 : World) (A : Option Addr) (n c : Nat), i < es.length → Mor w w1 → Lq w1 A n c (ne es i).ls → Calls Tryd.prog g (#[.agg #[.string (ne es i).key, .int .i64 (ne es i).day, .slice A n c]] ++ cb) w1 fun e w' => e = .returned (.bool (p i)) ∧ Mor w1 w'

set_option maxHeartbeats 1600000 in
theorem index_eq (g : Nat) (cb : Array Value) (X : Option Addr) (n cap : Nat) (es : List En) (p : Nat → Bool) (w : World) (eg : ∀ args w, (callFunc g args).run Tryd.prog w = .ok (.enter g args) w) (hr : Es w X es) (hn : n ≤ es.length) (hl : n ≤ 1000) (hf : SaysQ w g cb es p) :
    Calls Tryd.prog 25 #[.slice X n cap, .func (.func g) #[] cb] w fun e w' => e = .returned (.int .i64 (fidx p 0 n)) ∧ Mor w w' := by
  have HF := Lib.hid hf
  have HR := Lib.hid hr
  have HN := Lib.hid hn
  clear hf hr hn
  go_enter Tryd.func25, Tryd.ntmps25
  go_wp2
  go_loopw [8] (fun i wr => ∃ k : Nat, k ≤ n ∧ i = .int .i64 k ∧ Hid (∀ j, j < k → p j = false) ∧ Hid (Mor w wr)) (fun i _ => n - (intOf i).toNat)
  case atStart => exact ⟨0, Nat.zero_le _, rfl, Lib.hid (fun j hj => absurd hj (by omega)), Lib.hid (Mor.refl _)⟩
  case round =>
    obtain ⟨k, hk, rfl, HA, HM⟩ := hrel
    by_cases hlt : k < n
    · have hki : (k : Int) < (n : Int) := by omega
      have hk0 : (0 : Int) ≤ (k : Int) := by omega
      obtain ⟨x, A, m, c, hX, hxb, hks, c1, c2, c3, hq⟩ := (HR.out.mor HM.out).at_ k (by have := HN.out; omega)
      subst hX
      have hc := HF.out k wr A m c (by have := HN.out; omega) HM.out hq
      clear hks hq
      generalize (ne es k).key = s at *
      generalize (ne es k).day = a at *
      cases hp : p k <;> rw [hp] at hc
      · have HG := Lib.hid (show ∀ j, j < k + 1 → p j = false from fun j hj => by
          by_cases e : j = k
          · subst e; exact hp
          · exact HA.out j (by omega))
        clear hp
        go_wp2_with (go_at_fn g; refine hc.mono ?_; rintro e w' ⟨rfl, hmw⟩)
        have HM' := Lib.hid (Mor.trans' HM.out hmw)
        clear hmw
        go_roundw
        case rel => exact ⟨k + 1, by omega, by go_num, HG, HM'⟩
        case measure => simp [intOf]; omega
      · have HP := Lib.hid (fidx_at HA.out hlt hp)
        clear hp
        go_wp2_with (go_at_fn g; refine hc.mono ?_; rintro e w' ⟨rfl, hmw⟩)
        have HM' := Lib.hid (Mor.trans' HM.out hmw)
        clear hmw
        go_ret
        exact ⟨by rw [HP.out] <;> rfl, HM'.out⟩
    · obtain rfl : k = n := by omega
      have HP := Lib.hid (fidx_no HA.out)
      go_wp2
      go_ret
      exact ⟨by rw [HP.out] <;> rfl, HM.out⟩

set_option maxHeartbeats 800000 in
theorem contains_eq (g : Nat) (cb : Array Value) (X : Option Addr) (n cap : Nat) (es : List En) (p : Nat → Bool) (w : World) (eg : ∀ args w, (callFunc g args).run Tryd.prog w = .ok (.enter g args) w) (hr : Es w X es) (hn : n ≤ es.length) (hl : n ≤ 1000) (hf : SaysQ w g cb es p) :
    Calls Tryd.prog 9 #[.slice X n cap, .func (.func g) #[] cb] w fun e w' => e = .returned (.bool ((List.range n).any p)) ∧ Mor w w' := by
  have HI := Lib.hid (index_eq g cb X n cap es p w eg hr hn hl hf)
  have HA := Lib.hid (fidx_any p n)
  clear hr hn hf
  generalize (List.range n).any p = r at *
  generalize fidx p 0 n = f at *
  by_cases h : 0 ≤ f
  · rw [decide_eq_true h] at HA
    go_enter Tryd.func9, Tryd.ntmps9
    go_wp2_with fail
    refine HI.out.mono ?_
    rintro e w1 ⟨rfl, hm⟩
    have HM := Lib.hid hm
    clear hm
    go_wp2_with fail
    go_ret
    exact ⟨by rw [← HA.out] <;> simp, HM.out⟩
  · rw [decide_eq_false h] at HA
    go_enter Tryd.func9, Tryd.ntmps9
    go_wp2_with fail
    refine HI.out.mono ?_
    rintro e w1 ⟨rfl, hm⟩
    have HM := Lib.hid hm
    clear hm
    go_wp2_with fail
    go_ret
    exact ⟨by rw [← HA.out] <;> simp [h], HM.out⟩

/-- R.Same with an entry that stands in a variable -/
theorem ne_mem {es : List En} {x : En} : x ∈ es ↔ ∃ i, i < es.length ∧ ne es i = x := by
  constructor
  · intro h
    obtain ⟨i, hi, e⟩ := List.mem_iff_getElem.1 h
    exact ⟨i, hi, by rw [ne_eq _ _ hi]; exact e⟩
  · rintro ⟨i, hi, rfl⟩
    rw [ne_eq _ _ hi]
    exact List.getElem_mem hi
theorem any_same {es : List En} {x : En} (h : x ∈ es) : (List.range es.length).any (fun j => decide (ne es j = x)) = true := by
  obtain ⟨i, hi, e⟩ := ne_mem.1 h
  exact List.any_eq_true.2 ⟨i, List.mem_range.2 hi, by simp [e]⟩

end Go.Proofs.YtfmlkhppcepeiaaDoor

/- What is due of plans by the end, in plain Lean: each part once, all of the amounts, entries that are good. -/
namespace Go.Proofs.YtfmlkhppcepeiaaDoor
open Go.ChangeShapes Go.WideShapes Go.ChangeAt Go.RowKit Go.PlainAid
set_option linter.unusedVariables false

theorem bt_app (a b : ByteArray) (i : Nat) : bt (a ++ b) i = if i < a.size then bt a i else bt b (i - a.size) := by
  by_cases h : i < (a ++ b).size
  · by_cases h1 : i < a.size
    · rw [if_pos h1]
      unfold bt
      rw [dif_pos h, dif_pos h1, ByteArray.getElem_append_left h1]
    · rw [if_neg h1]
      have h2 : i - a.size < b.size := by rw [ByteArray.size_append] at h; omega
      unfold bt
      rw [dif_pos h, dif_pos h2, ByteArray.getElem_append_right (by omega)]
  · rw [ByteArray.size_append] at h
    rw [bt_end _ (by rw [ByteArray.size_append]; omega), if_neg (by omega), bt_end _ (by omega)]
theorem pk_size (s : ByteArray) (k : Nat) : (pk s k).size = s.size + 3 := by
  unfold pk
  rw [ByteArray.size_append, ByteArray.size_append]
  rfl
theorem pk_bt (s : ByteArray) (k i : Nat) : bt (pk s k) i = if i < s.size then bt s i else if i = s.size then 45 else bt (two k) (i - s.size - 1) := by
  unfold pk
  rw [bt_app, bt_app, ByteArray.size_append]
  show (if i < s.size + 1 then (if i < s.size then bt s i else bt dash (i - s.size)) else bt (two k) (i - (s.size + 1))) = _
  by_cases h1 : i < s.size
  · rw [if_pos (by omega), if_pos h1, if_pos h1]
  · rw [if_neg h1]
    by_cases h2 : i = s.size
    · rw [if_pos (by omega), if_neg h1, if_pos h2, h2, Nat.sub_self]; rfl
    · rw [if_neg (by omega), if_neg h1, if_neg h2, Nat.sub_sub]
theorem two_bt (k : Nat) (h : k < 100) : bt (two k) 0 = 48 + k / 10 ∧ bt (two k) 1 = 48 + k % 10 := by
  have e0 : bt (two k) 0 = ((UInt8.ofNat (48 + k / 10)).toNat : Int) := rfl
  have e1 : bt (two k) 1 = ((UInt8.ofNat (48 + k % 10)).toNat : Int) := rfl
  rw [e0, e1, UInt8.toNat_ofNat', UInt8.toNat_ofNat']
  omega
theorem pk_key {s : ByteArray} {k : Nat} (h : keyB s = true) (h9 : s.size ≤ 9) (hk : k < 40) : keyB (pk s k) = true := by
  unfold keyB at h ⊢
  simp only [Bool.and_eq_true, decide_eq_true_eq] at h ⊢
  obtain ⟨⟨h1, h2⟩, h3⟩ := h
  refine ⟨⟨by rw [pk_size]; omega, by rw [pk_size]; omega⟩, ?_⟩
  unfold allB at h3 ⊢
  rw [List.all_eq_true] at h3 ⊢
  intro i hi
  rw [List.mem_range, pk_size] at hi
  rw [pk_bt]
  by_cases e1 : i < s.size
  · rw [if_pos e1]; exact h3 i (List.mem_range.2 e1)
  · rw [if_neg e1]
    by_cases e2 : i = s.size
    · rw [if_pos e2]; decide
    · rw [if_neg e2]
      obtain ⟨b0, b1⟩ := two_bt k (by omega)
      have : i - s.size - 1 = 0 ∨ i - s.size - 1 = 1 := by omega
      rcases this with e | e <;> rw [e]
      · rw [b0]; unfold keyC; simp only [Bool.or_eq_true, Bool.and_eq_true, decide_eq_true_eq]; omega
      · rw [b1]; unfold keyC; simp only [Bool.or_eq_true, Bool.and_eq_true, decide_eq_true_eq]; omega
theorem bt_inj {a b : ByteArray} (h1 : a.size = b.size) (h2 : ∀ i, i < a.size → bt a i = bt b i) : a = b := by
  apply ByteArray.ext_getElem h1
  intro i hi hj
  have h := h2 i hi
  unfold bt at h
  rw [dif_pos hi, dif_pos hj] at h
  exact UInt8.toNat_inj.1 (by omega)
theorem pk_inj {s t : ByteArray} {k l : Nat} (hk : k < 40) (hl : l < 40) (h : pk s k = pk t l) : s = t ∧ k = l := by
  have hs : s.size = t.size := by have := congrArg ByteArray.size h; rw [pk_size, pk_size] at this; omega
  have hb := fun i => congrArg (fun x => bt x i) h
  simp only [pk_bt] at hb
  refine ⟨bt_inj hs fun i hi => ?_, ?_⟩
  · have := hb i
    rw [if_pos hi, if_pos (by omega)] at this
    exact this
  · have a0 := hb (s.size + 1)
    have a1 := hb (s.size + 2)
    rw [if_neg (by omega), if_neg (by omega), if_neg (by omega), if_neg (by omega)] at a0 a1
    rw [show s.size + 1 - s.size - 1 = 0 by omega, show s.size + 1 - t.size - 1 = 0 by omega] at a0
    rw [show s.size + 2 - s.size - 1 = 1 by omega, show s.size + 2 - t.size - 1 = 1 by omega] at a1
    obtain ⟨b0, b1⟩ := two_bt k (by omega)
    obtain ⟨c0, c1⟩ := two_bt l (by omega)
    rw [b0, c0] at a0
    rw [b1, c1] at a1
    omega

theorem stB_le (D n k : Int) (h1 : 0 ≤ D) (h5 : 1 ≤ n) (h8 : k ≤ n) : stB D n k ≤ D := by
  unfold stB
  refine rnd_le _ _ _ _ h5 ?_
  rw [Int.mul_comm n D]
  exact Int.mul_le_mul_of_nonneg_left h8 h1
theorem partP_tt {p : Pln} (h : Pok p) {k : Nat} (hk : (k : Int) < p.num) : -1000000000000 ≤ partP p k ∧ partP p k ≤ 1000000000000 := by
  have h1 := h.num0
  have h9 := h.num9
  have ha := h.amt9
  unfold partP
  split
  · unfold dgP
    have a := dgB_bd p.amt p.num ((k : Int) + 1) h.amt0 h.amt9 h1 h9 (by omega) (by omega)
    have b := dgB_bd p.amt p.num (k : Int) h.amt0 h.amt9 h1 h9 (by omega) (by omega)
    have c := dgB_le p.amt p.num ((k : Int) + 1) h.amt0 h1 h9 (by omega) (by omega) h.amt9
    have d := dgB_le p.amt p.num (k : Int) h.amt0 h1 h9 (by omega) (by omega) h.amt9
    omega
  · unfold stP
    have a := stB_bd p.amt p.num ((k : Int) + 1) h.amt0 h.amt9 h1 (by omega) (by omega)
    have b := stB_bd p.amt p.num (k : Int) h.amt0 h.amt9 h1 (by omega) (by omega)
    have c := stB_le p.amt p.num ((k : Int) + 1) h.amt0 h1 (by omega)
    have d := stB_le p.amt p.num (k : Int) h.amt0 h1 (by omega)
    omega

theorem mkE_enc {p : Pln} (h : Pok p) {k : Nat} (hk : k < p.num.toNat) (hn : partP p k ≠ 0) : enc (mkE p k) = 0 := by
  have hn9 := h.num9
  have hn0 := h.num0
  have ⟨b1, b2⟩ := partP_tt h (k := k) (by omega)
  have hk2 := pok_k h (k := (k : Int)) (by omega) (by omega)
  have hd := (ad_isD h.frm0 h.frm9 hk2.1 hk2.2).bd
  show entc (pk p.key k) (ad p.frm k) [(p.deb, partP p k), (p.cre, - partP p k)] = 0
  unfold entc
  rw [pk_key h.key h.short (by omega), if_neg (by simp), if_neg (by omega)]
  generalize partP p k = t at *
  unfold linec
  rw [if_neg (by simp)]
  have l0 : lnAt [(p.deb, t), (p.cre, -t)] 0 = 0 := by
    unfold lnAt
    show (if codeB p.deb = false then (3 : Int) else if t < -1000000000000 ∨ 1000000000000 < t ∨ t = 0 then 1 else if twB [(p.deb, t), (p.cre, -t)] 0 = true then 5 else 0) = 0
    rw [if_neg (by simp [h.deb]), if_neg (by omega), if_neg (by simp [twB])]
  have l1 : lnAt [(p.deb, t), (p.cre, -t)] 1 = 0 := by
    unfold lnAt
    show (if codeB p.cre = false then (3 : Int) else if -t < -1000000000000 ∨ 1000000000000 < -t ∨ -t = 0 then 1 else if twB [(p.deb, t), (p.cre, -t)] 1 = true then 5 else 0) = 0
    rw [if_neg (by simp [h.cre]), if_neg (by omega), if_neg]
    unfold twB
    show ¬ ([0].any fun j => decide (cd [(p.deb, t), (p.cre, -t)] j = p.cre)) = true
    simp only [List.any_cons, List.any_nil, Bool.or_false, decide_eq_true_eq]
    exact h.two
  have lu : lnUp [(p.deb, t), (p.cre, -t)] 2 = 0 := lnUp_all fun i hi => by
    match i, hi with
    | 0, _ => exact l0
    | 1, _ => exact l1
  show (if lnUp [(p.deb, t), (p.cre, -t)] 2 ≠ 0 then lnUp [(p.deb, t), (p.cre, -t)] 2 else if 2 < 2 ∨ amS [(p.deb, t), (p.cre, -t)] 2 ≠ 0 then 7 else 0) = 0
  rw [if_neg (by simp [lu]), if_neg]
  show ¬ (2 < 2 ∨ 0 + t + -t ≠ 0)
  omega
/-- the amount of an entry's first line -/
def fa (x : En) : Int := am x.ls 0
def fas (es : List En) : Int := (es.map fa).sum
theorem fas_app (a b : List En) : fas (a ++ b) = fas a + fas b := by unfold fas; rw [List.map_append, List.sum_append]
theorem partP_diff (p : Pln) : ∃ g : Int → Int, (∀ k : Nat, partP p k = g ((k : Int) + 1) - g k) ∧ (Pok p → g 0 = 0 ∧ g p.num = p.amt) := by
  by_cases hk : p.kind = 1
  · refine ⟨dgB p.amt p.num, fun k => by unfold partP dgP; rw [if_pos hk], fun h => ⟨dgB_zero _ _ (tri_bd p.num 0 h.num0 h.num9 (Int.le_refl _) (by have := h.num0; omega)).2.2.2.2.2.2.1, dgB_all _ _ h.num0 h.num9⟩⟩
  · refine ⟨stB p.amt p.num, fun k => by unfold partP stP; rw [if_neg hk], fun h => ⟨stB_zero _ _ h.num0, stB_all _ _ h.num0⟩⟩
theorem fas_dueK {p : Pln} (h : Pok p) (g : Int → Int) (hg : ∀ k : Nat, partP p k = g ((k : Int) + 1) - g k) (g0 : g 0 = 0) (n : Nat) (hn : n ≤ p.num.toNat) : fas (dueK p 292193 n) = g n := by
  induction n with
  | zero => exact g0.symm
  | succ n ih =>
    have hn0 := h.num0
    have hk2 := pok_k h (k := (n : Int)) (by omega) (by omega)
    have hd := (ad_isD h.frm0 h.frm9 hk2.1 hk2.2).bd
    show fas (dueK p 292193 n ++ if ad p.frm n ≤ 292193 ∧ partP p n ≠ 0 then [mkE p n] else []) = _
    rw [fas_app, ih (by omega)]
    have e := hg n
    rw [show (((n + 1 : Nat)) : Int) = (n : Int) + 1 by omega]
    by_cases hz : partP p n = 0
    · rw [if_neg (by simp [hz])]
      show g n + 0 = _
      omega
    · rw [if_pos ⟨by omega, hz⟩]
      show g n + (partP p n + 0) = _
      omega
theorem fas_due1 {p : Pln} (h : Pok p) : fas (due1 p 292193) = p.amt := by
  obtain ⟨g, h1, h2⟩ := partP_diff p
  obtain ⟨h3, h4⟩ := h2 h
  have := fas_dueK h g h1 h3 p.num.toNat (Nat.le_refl _)
  have hn0 := h.num0
  rw [show ((p.num.toNat : Nat) : Int) = p.num by omega] at this
  unfold due1
  rw [this, h4]
def pam (ps : List Pln) : Int := (ps.map Pln.amt).sum
theorem fas_dueP : ∀ {ps : List Pln}, (∀ p ∈ ps, Pok p) → fas (dueP ps 292193) = pam ps
  | [], _ => rfl
  | p :: ps, h => by
    show fas (due1 p 292193 ++ dueP ps 292193) = p.amt + pam ps
    rw [fas_app, fas_due1 (h p (List.mem_cons_self ..)), fas_dueP fun q hq => h q (List.mem_cons_of_mem _ hq)]
theorem pam_take (ps : List Pln) (j : Nat) (h : j < ps.length) : pam (ps.take (j + 1)) = pam (ps.take j) + (np ps j).amt := by
  unfold pam
  rw [List.take_succ_eq_append_getElem h, List.map_append, List.sum_append, np_eq ps j h]
  simp
theorem pam_bd {ps : List Pln} (h : ∀ i, i < ps.length → Pok (np ps i)) (j : Nat) (hj : j ≤ ps.length) : 0 ≤ pam (ps.take j) ∧ pam (ps.take j) ≤ 1000000000000 * j := by
  induction j with
  | zero => simp [pam]
  | succ j ih =>
    rw [pam_take ps j (by omega)]
    have h1 := ih (by omega)
    have h2 := (h j (by omega)).amt0
    have h3 := (h j (by omega)).amt9
    omega
theorem fas_take (es : List En) (j : Nat) (h : j < es.length) : fas (es.take (j + 1)) = fas (es.take j) + fa (ne es j) := by
  rw [List.take_succ_eq_append_getElem h, fas_app, ne_eq es j h]
  unfold fas; simp
theorem fas_bd {es : List En} (h : ∀ i, i < es.length → -1000000000000 ≤ fa (ne es i) ∧ fa (ne es i) ≤ 1000000000000) (j : Nat) (hj : j ≤ es.length) : -(1000000000000 * j) ≤ fas (es.take j) ∧ fas (es.take j) ≤ 1000000000000 * j := by
  induction j with
  | zero => simp [fas]
  | succ j ih =>
    rw [fas_take es j (by omega)]
    have h1 := ih (by omega)
    have h2 := h j (by omega)
    omega
theorem due1_key {p : Pln} {day : Int} {x : En} (h : x ∈ due1 p day) : ∃ k, k < p.num.toNat ∧ ad p.frm k ≤ day ∧ partP p k ≠ 0 ∧ x = mkE p k := dueK_mem.1 h
theorem dueK_keys {p : Pln} (h : Pok p) (day : Int) (n : Nat) (hn : n ≤ p.num.toNat) : (dueK p day n).Pairwise fun x y => x.key ≠ y.key := by
  have h9 := h.num9
  induction n with
  | zero => exact List.Pairwise.nil
  | succ n ih =>
    show (dueK p day n ++ if ad p.frm n ≤ day ∧ partP p n ≠ 0 then [mkE p n] else []).Pairwise _
    rw [List.pairwise_append]
    refine ⟨ih (by omega), by split <;> simp, fun x hx y hy => ?_⟩
    obtain ⟨k, hk, _, _, rfl⟩ := dueK_mem.1 hx
    split at hy
    · simp at hy
      subst hy
      intro e
      have := (pk_inj (by omega) (by omega) e).2
      omega
    · cases hy
theorem dueP_keys : ∀ {ps : List Pln} (day : Int), (∀ p ∈ ps, Pok p) → (ps.Pairwise fun p q => p.key ≠ q.key) → (dueP ps day).Pairwise fun x y => x.key ≠ y.key
  | [], _, _, _ => List.Pairwise.nil
  | p :: ps, day, h, hp => by
    show (due1 p day ++ dueP ps day).Pairwise _
    rw [List.pairwise_cons] at hp
    rw [List.pairwise_append]
    refine ⟨dueK_keys (h p (List.mem_cons_self ..)) day _ (Nat.le_refl _), dueP_keys day (fun q hq => h q (List.mem_cons_of_mem _ hq)) hp.2, fun x hx y hy => ?_⟩
    obtain ⟨k, hk, _, _, rfl⟩ := due1_key hx
    unfold dueP at hy
    obtain ⟨q, hq, hy⟩ := List.mem_flatMap.1 hy
    obtain ⟨l, hl, _, _, rfl⟩ := due1_key hy
    have n1 := (h p (List.mem_cons_self ..)).num9
    have n2 := (h q (List.mem_cons_of_mem _ hq)).num9
    intro e
    exact hp.1 q hq (pk_inj (by omega) (by omega) e).1
theorem pok_mem {ps : List Pln} (h : plc ps = 0) : (∀ p ∈ ps, Pok p) ∧ ps.Pairwise fun p q => p.key ≠ q.key := by
  obtain ⟨_, h2, h3⟩ := plc_ok h
  refine ⟨fun p hp => ?_, ?_⟩
  · obtain ⟨i, hi, rfl⟩ := List.mem_iff_getElem.1 hp
    rw [← np_eq ps i hi]; exact h2 i hi
  · rw [List.pairwise_iff_getElem]
    intro i j hi hj hij
    rw [← np_eq ps i hi, ← np_eq ps j hj]
    exact h3 i j hij hj
theorem dueP_mem {ps : List Pln} {day : Int} {x : En} (h : x ∈ dueP ps day) : ∃ p ∈ ps, ∃ k, k < p.num.toNat ∧ ad p.frm k ≤ day ∧ partP p k ≠ 0 ∧ x = mkE p k := by
  unfold dueP at h
  obtain ⟨p, hp, h⟩ := List.mem_flatMap.1 h
  exact ⟨p, hp, due1_key h⟩
theorem dueP_enc {ps : List Pln} (h : plc ps = 0) {day : Int} {x : En} (hx : x ∈ dueP ps day) : enc x = 0 ∧ x.day ≤ day ∧ x.ls.length = 2 ∧ -1000000000000 ≤ fa x ∧ fa x ≤ 1000000000000 := by
  obtain ⟨p, hp, k, hk, h1, h2, rfl⟩ := dueP_mem hx
  have hp0 := (pok_mem h).1 p hp
  exact ⟨mkE_enc hp0 hk h2, h1, rfl, partP_tt hp0 (by omega)⟩

end Go.Proofs.YtfmlkhppcepeiaaDoor

/- The walk of talkeep.JobAll. -/
namespace Go.Proofs.YtfmlkhppcepeiaaDoor.jobAll
open Go.ChangeShapes Go.WideShapes Go.ChangeAt Go.RowKit Go.PlainAid
set_option linter.unusedVariables false

set_option maxHeartbeats 800000 in
theorem clo_same (g : Nat) (x y : En) (A A' : Option Addr) (n c n' c' : Nat) (w : World) (hx : Lq w A n c x.ls) (hy : Lq w A' n' c' y.ls) (hc : C3 w g (.string y.key) (.int .i64 y.day) (.slice A' n' c')) :
    Calls Tryd.prog 14 #[.agg #[.string x.key, .int .i64 x.day, .slice A n c], .pointer (some ⟨g, 0, none⟩)] w fun e w' => e = .returned (.bool (decide (x = y))) ∧ Mor w w' := by
  have HS := Lib.hid (fun w' (h : Mor w w') => rsame_any x y A A' n c n' c' w' (hx.mor h) (hy.mor h))
  generalize decide (x = y) = r at *
  obtain ⟨c0, c1, c2, cl⟩ := hc
  go_enter Tryd.func14, Tryd.ntmps14
  go_wp2_with (go_at_call 11; (with_reducible refine (HS.out _ (by repeat (first | exact Mor.refl _ | apply Mor.alloc | apply Mor.more | apply Mor.drewN | apply Mor.drew))).mono ?_); rintro e w2 ⟨rfl, hm⟩)
  go_ret
  exact ⟨rfl, by repeat (first | exact hm | exact Mor.refl _ | apply Mor.trans' _ hm | apply Mor.alloc | apply Mor.more | apply Mor.drewN | apply Mor.drew)⟩
theorem due20 : plc [plA 1 30 2] = 0 ∧ duev [plA 1 30 2] 3 = [⟨pk kp 0, 3, [(s50, 20), (s10, -20)]⟩] := by
  have h := plA_ok (kind := 1) (amt := 30) (num := 2) (.inr rfl) (by omega) (by omega) (by omega) (by omega)
  have p0 : partP (plA 1 30 2) 0 = 20 := by decide +kernel
  have e0 : ad (plA 1 30 2).frm ((0 : Nat) : Int) = 3 := ad30
  have e1 : ad (plA 1 30 2).frm ((1 : Nat) : Int) = 34 := ad31
  refine ⟨h, ?_⟩
  rw [duev_ok h, dueP_one]
  show dueK (plA 1 30 2) 3 2 = _
  simp only [dueK, mkE, e0, e1, p0]
  rfl

set_option maxRecDepth 100000 in
set_option maxHeartbeats 3200000 in
theorem jobAll_walk (w : World) (ht : Tab w) (L : Option Addr) (p q : Nat) (ps : List Pln) (hl : Ps w L ps ∧ ps.length = p ∧ p ≤ q ∧ q ≤ maxLen ∧ (L = none → p = 0)) (v1 : Int) (w1 : (Lit.int .i64 v1).wf = true) :
    Calls Tryd.prog 5 #[.slice L p q, .int .i64 v1] w fun e w' => e = .returned (.bool true) ∧ Below w.heap.size w w' := by
  obtain ⟨hps, hpn, hpq, hqm, -⟩ := hl
  have t0 := wi_lo v1 292194 (by omega)
  have t1 := wi_hi v1 292194 (by omega)
  have HD1 := Lib.hid (fun w => day_any v1 w)
  generalize wi v1 292194 = t at *
  have HDi := Lib.hid (fun w' (h : Mor w w') => due_any L p q ps t w' (hps.mor h) hpn hpq hqm (ht.mor h) t0 (by omega))
  have HDk := Lib.hid (fun w' (h : Mor w w') => due_any L p q ps 292193 w' (hps.mor h) hpn hpq hqm (ht.mor h) (by omega) (by omega))
  have HT := Lib.hid ht
  have HPs := Lib.hid hps
  have HN := Lib.hid hpn
  clear hps ht w1
  go_enter Tryd.func5, Tryd.ntmps5
  go_wp2_with fail
  have hB := Bk.new w 24 #[.string kp, .int .i64 1, .int .i64 3, .int .i64 30, .int .i64 2, .string s50, .string s10]
  obtain ⟨bP, hbP⟩ : ∃ g, g = w.heap.size := ⟨_, rfl⟩
  rw [← hbP] at hB ⊢
  have hm0 := (Mor.refl w).alloc (o := .cells #[.string kp, .int .i64 1, .int .i64 3, .int .i64 30, .int .i64 2, .string s50, .string s10] 24)
  refine (due_lit (.inr rfl) (by omega) (by omega) (by omega) (by omega) bP 3 _ hB (HT.out.mor hm0) (by omega) (by omega)).mono ?_
  rw [due20.2]
  rintro e w3 ⟨X, m, c, qs, rfl, rfl, ho, hm⟩
  obtain ⟨g4, k4, g5, c5, e4, -, -, gl, gl5, d0, d1, d2, l0, l1, -⟩ := ho.line 0 (by decide) rfl
  injection e4 with e41 e42 e43
  subst e41
  simp at d0 d1 d2
  change w3.cell? ⟨g5, 0, none⟩ = some (.string s50) at l0
  change w3.cell? ⟨g5, 1, none⟩ = some (.int .i64 20) at l1
  have HM3 := Lib.hid (hm0.trans' hm)
  clear hB hm0 hm hbP ho e42 e43
  go_wp2_with (first | (go_at_call 8; (with_reducible refine (HD1.out _).mono ?_); rintro e w6 ⟨rfl, rfl⟩))
  refine (HDi.out _ HM3.out).mono ?_
  rintro e w5 ⟨X5, m5, k5, qs5, rfl, hl5, ho5, hm⟩
  have HM5 := Lib.hid (HM3.out.trans' hm)
  have HO5 := Lib.hid (And.intro ho5 hl5)
  clear hm ho5 hl5 d0 d1 d2 l0 l1 gl gl5
  go_wp2_with fail
  refine (HDk.out _ HM5.out).mono ?_
  rintro e w6 ⟨X6, m6, k6, qs6, rfl, hl6, ho6, hm⟩
  have HM6 := Lib.hid (HM5.out.trans' hm)
  have HO5' := Lib.hid (And.intro (HO5.out.1.mor hm) HO5.out.2)
  have HO6 := Lib.hid (And.intro ho6 hl6)
  clear hm ho6 hl6 HO5 HDi HDk HD1
  by_cases hr : plc ps = 0
  · rw [hr]
    have hp12 : p ≤ 12 := by rw [← HN.out]; exact (plc_ok hr).1
    have HPk := Lib.hid (plc_ok hr).2.1
    go_wp2_with fail
    go_loopw [12, 79] (fun a i wr => ∃ j : Nat, j ≤ p ∧ i = .int .i64 j ∧ a = .int .i64 (pam (ps.take j)) ∧ Hid (Mor w6 wr)) (fun _ i _ => p - (intOf i).toNat)
    case atStart => exact ⟨0, Nat.zero_le _, rfl, rfl, Lib.hid (Mor.refl _)⟩
    case round =>
      obtain ⟨j, hj, rfl, rfl, HJ⟩ := hrel
      by_cases hlt : j < p
      · have hji : (j : Int) < (p : Int) := by omega
        have hj0 : (0 : Int) ≤ (j : Int) := by omega
        have hjl : j < ps.length := by rw [HN.out]; exact hlt
        obtain ⟨x, hA, hxb, hw, c0, c1, c2, c3, c4, c5, c6⟩ := (HPs.out.mor (HM6.out.trans' HJ.out)).at_ j hjl
        subst hA
        have hp := HPk.out j hjl
        have HTk := Lib.hid (pam_take ps j hjl)
        obtain ⟨b1, b2⟩ := pam_bd HPk.out j (by omega)
        obtain ⟨b3, b4⟩ := (And.intro hp.amt0 hp.amt9)
        generalize pam (ps.take j) = a at *
        generalize np ps j = pl at *
        obtain ⟨key, kind, frm, amt, num, deb, cre⟩ := pl
        dsimp only at c0 c1 c2 c3 c4 c5 c6 b3 b4 HTk
        clear hw hp
        go_wp2_with fail
        go_roundw
        case rel => exact ⟨j + 1, by omega, by go_num, by rw [HTk.out], Lib.hid (by repeat (first | exact HJ.out | apply Mor.alloc))⟩
        case measure => simp [intOf]; omega
      · obtain rfl : j = p := by omega
        have HMj := Lib.hid (HM6.out.trans' HJ.out)
        have HO5j := Lib.hid (And.intro (HO5'.out.1.mor HJ.out) HO5'.out.2)
        have HO6j := Lib.hid (And.intro (HO6.out.1.mor HJ.out) HO6.out.2)
        rw [List.take_of_length_le (by rw [HN.out]; exact Nat.le_refl _)]
        clear HJ HO5' HO6 HM6
        have hmm := @run_makeMap Tryd.prog
        go_wp2_with fail
        clear hmm
        obtain ⟨wA, hwA⟩ : ∃ v, v = wr := ⟨_, rfl⟩
        rw [← hwA] at HMj HO5j HO6j ⊢
        obtain ⟨gm, hgm⟩ : ∃ g, g = wA.heap.size := ⟨_, rfl⟩
        rw [← hgm]
        have HGM := Lib.hid hgm
        have HB0 := Lib.hid (show Bs (wA.alloc (.map #[] 0)) gm 0 (seenF (duev ps 292193) 0) by rw [hgm]; exact Bs.made wA)
        have HEn := Lib.hid (fun i (hi : i < m6) => show enc (ne (duev ps 292193) i) = 0 ∧ (ne (duev ps 292193) i).ls.length = 2 ∧ -1000000000000 ≤ fa (ne (duev ps 292193) i) ∧ fa (ne (duev ps 292193) i) ≤ 1000000000000 by
          have h := dueP_enc hr (day := 292193) (x := ne (duev ps 292193) i) (by rw [← duev_ok hr]; exact ne_mem.2 ⟨i, by rw [HO6j.out.2]; exact hi, rfl⟩)
          exact ⟨h.1, h.2.2⟩)
        have HSe := Lib.hid (fun i (hi : i < m6) => show seenF (duev ps 292193) i (ne (duev ps 292193) i).key = false by
          have hk := dueP_keys 292193 (pok_mem hr).1 (pok_mem hr).2
          rw [← duev_ok hr, List.pairwise_iff_getElem] at hk
          unfold seenF
          rw [List.any_eq_false]
          intro j hj
          have hj := List.mem_range.1 hj
          have hl := HO6j.out.2
          rw [ne_eq _ j (by omega), ne_eq _ i (by omega)]
          simpa using hk j i (by omega) (by omega) hj)
        have HAll := Lib.hid (show fas (duev ps 292193) = pam ps by rw [duev_ok hr]; exact fas_dueP (pok_mem hr).1)
        have hm6b : m6 ≤ 480 := by
          rw [← HO6j.out.2, duev_ok hr]
          have := dueP_le ps 292193 (plc_ok hr).2.1 ps.length (Nat.le_refl _)
          rw [List.take_of_length_le (Nat.le_refl _), HN.out] at this
          omega
        have HMem := Lib.hid (show ∀ x ∈ duev ps t, x ∈ duev ps 292193 ∧ x.day ≤ t by
          rw [duev_ok hr, duev_ok hr]
          exact fun x hx => ⟨(dueP_grows (by omega) ps).2 x hx, (dueP_enc hr hx).2.1⟩)
        clear hgm hwA HPk hr
        generalize duev ps 292193 = dk' at *
        generalize duev ps t = di at *
        generalize pam ps = A at *
        go_loopw [16, 91] (fun a i wr => ∃ j : Nat, j ≤ m6 ∧ i = .int .i64 j ∧ a = .int .i64 (fas (dk'.take j)) ∧ Hid (Bs wr gm j (seenF dk' j) ∧ Mor wA wr)) (fun _ i _ => m6 - (intOf i).toNat)
        case atStart => exact ⟨0, Nat.zero_le _, rfl, rfl, Lib.hid ⟨HB0.out, (Mor.refl _).alloc⟩⟩
        case round =>
          obtain ⟨j, hj, rfl, rfl, HJ⟩ := hrel
          by_cases hlt : j < m6
          · have hji : (j : Int) < (m6 : Int) := by omega
            have hj0 : (0 : Int) ≤ (j : Int) := by omega
            obtain ⟨hb, hm⟩ := HJ.out
            obtain ⟨he1, he2, he3, he4⟩ := HEn.out j hlt
            obtain ⟨g6, k6', g7, c7, e6, -, -, gl, gl7, d0, d1, d2, l0, l1, hq, hks⟩ := (HO6j.out.1.mor hm).line j hlt he2
            injection e6 with e61 _ e63
            subst e61 e63
            have hgg : g6 < gm := by
              obtain ⟨g6', k6', g7, c7, e6, -, -, gl, -⟩ := HO6j.out.1.line j hlt he2
              injection e6 with e61
              injection e61 with e61
              injection e61 with e61
              subst e61
              rw [HGM.out]; exact gl
            have hgg7 : g7 < gm := by
              obtain ⟨g6', k6', g7', c7', e6, -, -, gl, gl7', f0, f1, f2, -⟩ := HO6j.out.1.line j hlt he2
              injection e6 with e61
              injection e61 with e61
              injection e61 with e61
              subst e61
              have := (hm.below.cell (p := ⟨g6, j * 3 + 2, none⟩) gl).trans f2
              rw [d2] at this
              injection this with this
              injection this with this
              injection this with this
              injection this with this
              rw [HGM.out, this]; exact gl7'
            have HFt := Lib.hid (fas_take dk' j (by rw [HO6j.out.2]; exact hlt))
            have ⟨b1, b2⟩ := fas_bd (es := dk') (fun i hi => (HEn.out i (by rw [← HO6j.out.2]; exact hi)).2.2) j (by rw [HO6j.out.2]; omega)
            have HStep := Lib.hid (seenF_step dk' j)
            have HSj := Lib.hid (HSe.out j hlt)
            have HCk := Lib.hid (fun w' (h : Mor wr w') => check_any (ne dk' j).key (ne dk' j).day (some ⟨g7, 0, none⟩) 2 c7 (ne dk' j).ls w' hks (hq.mor h).si hq.length hq.le (Nat.le_trans hq.le hq.max) hq.str)
            rw [show entc (ne dk' j).key (ne dk' j).day (ne dk' j).ls = 0 from he1] at HCk
            have HLk := Lib.hid (fun w' (h : Bs w' gm j (seenF dk' j)) => h.look (ne dk' j).key hks)
            rw [HSj.out] at HLk
            unfold fa at he3 he4
            generalize fas (dk'.take j) = a at *
            generalize ne dk' j = y at *
            obtain ⟨ky, dy, ls⟩ := y
            dsimp only at d0 d1 l0 l1 he3 he4 HCk HLk hks HStep
            rw [show fa ⟨ky, dy, ls⟩ = am ls 0 from rfl] at HFt
            generalize am ls 0 = ay at *
            have hc7 := hq.le
            have hcm7 := hq.max
            unfold maxLen at hcm7
            have HKs := Lib.hid hks
            have HWA := Lib.hid hm.below.size
            clear hq he1 he2 hks HEn HSe HSj
            have hgl := hb.lt
            go_wp2_with fail
            refine (HCk.out _ (Mor.refl _).alloc).mono ?_
            rintro e w6 ⟨rfl, hm6⟩
            have hE := (Bk.new wr 31 #[.string ky, .int .i64 dy, .slice (some ⟨g7, 0, none⟩) 2 c7]).mor hm6
            have hS6 := (hb.alloc (.cells #[.string ky, .int .i64 dy, .slice (some ⟨g7, 0, none⟩) 2 c7] 31)).mor hm6
            have hM6 : Mor wr w6 := (Mor.refl _).alloc.trans' hm6
            have l0 := (hM6.below.cell (p := ⟨g7, 0, none⟩) gl7).trans l0
            have l1 := (hM6.below.cell (p := ⟨g7, 1, none⟩) gl7).trans l1
            have gl7 := Nat.lt_of_lt_of_le gl7 hM6.below.size
            obtain ⟨bE, hbE⟩ : ∃ b, b = wr.heap.size := ⟨_, rfl⟩
            rw [← hbE] at hE ⊢
            have lk := HLk.out w6 hS6
            have f0 := hE.cell 0
            have f1 := hE.cell 1
            have f2 := hE.cell 2
            have fl := hE.lt
            simp at f0 f1 f2
            have hne : bE ≠ gm := by omega
            have HE6 := Lib.hid hE
            have HS6 := Lib.hid hS6
            have HM6 := Lib.hid (hm.trans' hM6)
            clear hE hS6 hM6 hm6 hb hm HJ HB0 HCk HLk d0 d1 d2 hbE
            go_wp2_with (at_mapUpdate; refine wpList_put_bs _ rfl _ _ _ rfl gm j _ rfl HS6.out (by unfold maxLen; omega) ky true rfl rfl HKs.out ?_)
            intro w7 hb7 hg7
            have hX7 : Mor wA w7 := Mor.of_below (HM6.out.below.grown hg7 HM6.out.below.size (fun i hi => by cases hi; have := HGM.out; omega))
            have hE7 := HE6.out.grown hg7 hne
            have l0 := hg7.cell l0 (by intro e; injection e with e; exact absurd (show g7 = gm from e) (by omega))
            have l1 := hg7.cell l1 (by intro e; injection e with e; exact absurd (show g7 = gm from e) (by omega))
            have gl7 := Nat.lt_of_lt_of_le gl7 hg7.size
            have HX7 := Lib.hid (show Bs w7 gm (j + 1) (seenF dk' (j + 1)) ∧ Mor wA w7 from ⟨by rw [← HStep.out]; simpa using hb7, hX7⟩)
            have f0 := hE7.cell 0
            have f1 := hE7.cell 1
            have f2 := hE7.cell 2
            have fl := hE7.lt
            simp at f0 f1 f2
            clear hX7 hE7 hb7 hg7 lk HE6 HS6 HM6
            go_wp2_with fail
            go_roundw
            case rel => exact ⟨j + 1, by omega, by go_num, by rw [HFt.out], HX7⟩
            case measure => simp [intOf]; omega
          · obtain rfl : j = m6 := by omega
            rw [List.take_of_length_le (by rw [HO6j.out.2]; exact Nat.le_refl _), HAll.out]
            obtain ⟨-, hm⟩ := HJ.out
            obtain ⟨X5', k5', e5, h5k, h5m, -, hes5⟩ := (HO5j.out.1.mor hm).shape
            obtain ⟨X6', k6', e6, h6k, h6m, -, hes6⟩ := (HO6j.out.1.mor hm).shape
            injection e5 with e51 _ e53
            injection e6 with e61 _ e63
            subst e51 e53 e61 e63
            unfold maxLen at h5m h6m
            have HE5 := Lib.hid hes5
            have HE6 := Lib.hid hes6
            have HL5 := Lib.hid HO5j.out.2
            have HL6 := Lib.hid HO6j.out.2
            have HMB := Lib.hid (HMj.out.trans' hm)
            clear hes5 hes6 hm HJ HB0 HSe HEn HO5j HO6j HMj
            obtain ⟨wB, hwB⟩ : ∃ v, v = wr := ⟨_, rfl⟩
            rw [← hwB] at HE5 HE6 HMB ⊢
            clear hwB
            go_wp2_with fail
            go_loopw [117] (fun i wr => ∃ j : Nat, j ≤ m5 ∧ i = .int .i64 j ∧ Hid (Mor wB wr)) (fun i _ => m5 - (intOf i).toNat)
            case atStart => exact ⟨0, Nat.zero_le _, rfl, Lib.hid (Mor.refl _)⟩
            case round =>
              obtain ⟨i, hj5, rfl, HR⟩ := hrel
              by_cases hlt5 : i < m5
              · have hji : (i : Int) < (m5 : Int) := by omega
                have hj0 : (0 : Int) ≤ (i : Int) := by omega
                have hjl : i < di.length := by rw [HL5.out]; exact hlt5
                obtain ⟨x, A2, n2, c2', hE, hxb, hks, d0, d1, d2, hlq⟩ := (HE5.out.mor HR.out).at_ i hjl
                subst hE
                have hin := HMem.out (ne di i) (ne_mem.2 ⟨i, hjl, rfl⟩)
                have hdy : ¬ t < (ne di i).day := by have := hin.2; omega
                have HAny := Lib.hid (any_same hin.1)
                generalize ne di i = y at *
                have HC := Lib.hid (fun w' (h : Mor wr w') g (hc : C3 w' g (.string y.key) (.int .i64 y.day) (.slice A2 n2 c2')) => contains_eq 14 #[.pointer (some ⟨g, 0, none⟩)] X6 j k6 dk' (fun i => decide (ne dk' i = y)) w' (fun _ _ => rfl) (HE6.out.mor (HR.out.trans' h)) (by rw [HL6.out]; exact Nat.le_refl _) (by omega) (fun i w1 A n c hi h1 hq => clo_same g (ne dk' i) y A A2 n c n2 c2' w1 hq (hlq.mor (h.trans' h1)) (hc.mor h1)))
                rw [show (List.range j).any (fun i => decide (ne dk' i = y)) = true by rw [← HL6.out]; exact HAny.out] at HC
                obtain ⟨ky, dy, ls⟩ := y
                dsimp only at d0 d1 HC hdy
                clear hlq hks hin
                go_wp2_with fail
                refine (HC.out _ (Mor.refl _).alloc _ (C3.new _ _ _ _ _)).mono ?_
                rintro e w7 ⟨rfl, hm⟩
                have HM7 := Lib.hid ((HR.out.alloc).trans' hm)
                clear hm d0 d1 d2 HC
                go_wp2_with fail
                go_roundw
                case rel => exact ⟨i + 1, by omega, by go_num, HM7⟩
                case measure => simp [intOf]; omega
              · obtain rfl : i = m5 := by omega
                go_wp2_with fail
                go_ret
                exact ⟨by simp, (HMB.out.trans' HR.out).below⟩
  · have hb : (plc ps != 0) = true := by simpa using hr
    have h0 : m5 = 0 := by rw [← HO5'.out.2, duev_no hr]; rfl
    have h1 : m6 = 0 := by rw [← HO6.out.2, duev_no hr]; rfl
    subst h0 h1
    go_wp2_with fail
    go_ret
    exact ⟨by simp, HM6.out.below⟩

end Go.Proofs.YtfmlkhppcepeiaaDoor.jobAll
