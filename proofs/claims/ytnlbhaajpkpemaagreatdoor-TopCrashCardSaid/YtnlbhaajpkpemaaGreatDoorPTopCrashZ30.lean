/- job.Due, whether the plans are good or not; plans that a law lays itself; ContainsFunc with R.Same. -/
import Derived.Test.YtnlbhaajpkpemaaGreatDoorPTopCrashZ1
import Derived.Test.YtnlbhaajpkpemaaGreatDoorPTopCrashZ2
import Derived.Test.YtnlbhaajpkpemaaGreatDoorPTopCrashZ3
import Derived.Test.YtnlbhaajpkpemaaGreatDoorPTopCrashZ4
import Derived.Test.YtnlbhaajpkpemaaGreatDoorPTopCrashZ5
import Derived.Test.YtnlbhaajpkpemaaGreatDoorPTopCrashZ6
import Derived.Test.YtnlbhaajpkpemaaGreatDoorPTopCrashZ7
import Derived.Test.YtnlbhaajpkpemaaGreatDoorPTopCrashZ8
import Derived.Test.YtnlbhaajpkpemaaGreatDoorPTopCrashZ9
import Derived.Test.YtnlbhaajpkpemaaGreatDoorPTopCrashZ10
import Derived.Test.YtnlbhaajpkpemaaGreatDoorPTopCrashZ11
import Derived.Test.YtnlbhaajpkpemaaGreatDoorPTopCrashZ12
import Derived.Test.YtnlbhaajpkpemaaGreatDoorPTopCrashZ13
import Derived.Test.YtnlbhaajpkpemaaGreatDoorPTopCrashZ14
import Derived.Test.YtnlbhaajpkpemaaGreatDoorPTopCrashZ15
import Derived.Test.YtnlbhaajpkpemaaGreatDoorPTopCrashZ16
import Derived.Test.YtnlbhaajpkpemaaGreatDoorPTopCrashZ17
import Derived.Test.YtnlbhaajpkpemaaGreatDoorPTopCrashZ18
import Derived.Test.YtnlbhaajpkpemaaGreatDoorPTopCrashZ19
import Derived.Test.YtnlbhaajpkpemaaGreatDoorPTopCrashZ20
import Derived.Test.YtnlbhaajpkpemaaGreatDoorPTopCrashZ21
import Derived.Test.YtnlbhaajpkpemaaGreatDoorPTopCrashZ22
import Derived.Test.YtnlbhaajpkpemaaGreatDoorPTopCrashZ23
import Derived.Test.YtnlbhaajpkpemaaGreatDoorPTopCrashZ24
import Derived.Test.YtnlbhaajpkpemaaGreatDoorPTopCrashZ25
import Derived.Test.YtnlbhaajpkpemaaGreatDoorPTopCrashZ26
import Derived.Test.YtnlbhaajpkpemaaGreatDoorPTopCrashZ27
import Derived.Test.YtnlbhaajpkpemaaGreatDoorPTopCrashZ28
import Derived.Test.YtnlbhaajpkpemaaGreatDoorPTopCrashZ29
import Derived.Test.YtnlbhaajpkpemaaGreatDoorRows
import Derived.BigQuiet
import Derived.BigRegion
import Derived.Carry
import Derived.DataElems
import Derived.Deep.DeepCutAuto
import Derived.Deep.LoopGhost
import Derived.Deep.OwnRows
import Derived.Deep.QuietTactic
import Derived.Deep.RegionHeld3
import Derived.Deep.RegionLaw
import Derived.Deep.RegionWith
import Derived.Deep.SlicePairs
import Derived.Deep.Slices
import Derived.Deep.Strs
import Derived.Handy
import Derived.IntWalk
import Derived.Laws.AppendOwn
import Derived.Laws.BytesArg
import Derived.Laws.CopyOwn
import Derived.Laws.CopyRow
import Derived.Laws.Cover1
import Derived.Laws.Externs
import Derived.Laws.NewBlocks
import Derived.Laws.OwnMore
import Derived.Laws.StandIn
import Derived.Lib.AppendZerosOnto
import Derived.Lib.Bytealg
import Derived.Lib.Hide
import Derived.Lib.LaidTab
import Derived.Lib.Overlaps
import Derived.Lib.SliceRun
import Derived.Lib.Walk
import Derived.Maps.Own
import Derived.Maps.OwnSet
import Derived.Maps.Views
import Derived.OpenShut
import Derived.Outline
import Derived.OwnWalk
import Derived.PlainAid
import Derived.ProofKit
import Derived.RegionTactic
import Derived.Shelf.Abstract
import Derived.Shelf.RegionOpenPlain
import Derived.Sort.Walk0
import Derived.StringKeys
import Derived.WalkKit
import Derived.WalkSpells
namespace Go.Proofs.YtnlbhaajpkpemaaGreatDoor
open Go.ChangeShapes Go.WideShapes Go.ChangeAt Go.RowKit Go.PlainAid
set_option linter.unusedVariables false
set_option maxRecDepth 100000

set_option maxRecDepth 100000 in
set_option maxHeartbeats 1600000 in
theorem due_no (A : Option Addr) (n cap : Nat) (ps : List Pln) (day : Int) (w : World) (hr : Ps w A ps) (hn : ps.length = n) (hcap : n ≤ cap) (hml : cap ≤ maxLen) (ht : Tab w) (hc : plc ps ≠ 0) :
    Calls Tryz.prog 16 #[.slice A n cap, .int .i64 day] w fun e w' => e = .returned (.tuple #[.slice none 0 0, .int .i64 (plc ps)]) ∧ Mor w w' := by
  have HCk := Lib.hid (fun w' (h : Mor w w') => plc_any A n cap ps w' (hr.mor h) hn hcap hml (ht.mor h))
  generalize plc ps = r at *
  have hb : (r != 0) = true := by simpa using hc
  clear hr ht hn
  go_enter Tryz.func16, Tryz.ntmps16
  go_wp2_with (first | (go_at_call 37; (with_reducible refine (HCk.out _ (Mor.refl _)).mono ?_); rintro e w1 ⟨rfl, hm1⟩))
  have HM := Lib.hid hm1
  clear hm1
  go_returns
  exact ⟨rfl, HM.out⟩
/-- what is due, or nothing -/
noncomputable def duev (ps : List Pln) (day : Int) : List En := if plc ps = 0 then dueP ps day else []
theorem duev_ok {ps : List Pln} {day : Int} (h : plc ps = 0) : duev ps day = dueP ps day := by unfold duev; rw [if_pos h]
theorem duev_no {ps : List Pln} {day : Int} (h : plc ps ≠ 0) : duev ps day = [] := by unfold duev; rw [if_neg h]
theorem due_any (A : Option Addr) (n cap : Nat) (ps : List Pln) (day : Int) (w : World) (hr : Ps w A ps) (hn : ps.length = n) (hcap : n ≤ cap) (hml : cap ≤ maxLen) (ht : Tab w) (d0 : 0 ≤ day) (d9 : day ≤ 292193) :
    Calls Tryz.prog 16 #[.slice A n cap, .int .i64 day] w fun e w' => ∃ X m k qs, e = .returned (.tuple #[.slice X m k, .int .i64 (plc ps)]) ∧ (duev ps day).length = m ∧ OwnEs w' w.heap.size (.slice X m k) m qs (duev ps day) ∧ Mor w w' := by
  by_cases h : plc ps = 0
  · refine (due_ok A n cap ps day w hr hn hcap hml ht h d0 d9).mono ?_
    rintro e w' ⟨v, qs, rfl, ho, hm⟩
    rw [duev_ok h, h]
    obtain ⟨X, k, rfl, _⟩ := ho.shape
    exact ⟨X, _, k, qs, rfl, rfl, ho, hm⟩
  · refine (due_no A n cap ps day w hr hn hcap hml ht h).mono ?_
    rintro e w' ⟨rfl, hm⟩
    rw [duev_no h]
    exact ⟨none, 0, 0, [], rfl, rfl, ⟨World.ownsRow_nil _ _ _ _, rfl, rfl, fun i hi => absurd hi (Nat.not_lt_zero _)⟩, hm⟩

/-- the cells of an entry of one's own -/
theorem OwnEs.cells {w : World} {base : Nat} {v : Value} {m : Nat} {qs : List Ev} {es : List En} (h : OwnEs w base v m qs es) (i : Nat) (hi : i < m) :
    ∃ g k, v = .slice (some ⟨g, 0, none⟩) m k ∧ m ≤ k ∧ k ≤ maxLen ∧ g < w.heap.size ∧ w.cell? ⟨g, i * 3, none⟩ = some (.string (ne es i).key) ∧ w.cell? ⟨g, i * 3 + 1, none⟩ = some (.int .i64 (ne es i).day) ∧ w.cell? ⟨g, i * 3 + 2, none⟩ = some (.slice (qe qs i).A (qe qs i).n (qe qs i).c) ∧ OwnE w base (qe qs i) (ne es i) := by
  have hr := h.row
  have hE := h.ent i hi
  obtain ⟨hlen, hh | ⟨g, cap, cur, rfl, hg, hb, h1, h2, h3, h4⟩⟩ := hr
  · obtain ⟨_, rfl⟩ := hh; omega
  · refine ⟨g, cap, rfl, h1, h2, (Array.getElem?_eq_some_iff.1 hb).1, ?_⟩
    have hi' : i < qs.length := by rw [h.ql]; exact hi
    obtain ⟨b', o', hA', _, hc⟩ := Rd.field 3 ec_len (Rd.own h.row) i hi' (by omega)
    injection hA' with hA'
    injection hA' with e1 e2
    subst e1 e2
    have c0 := hc 0 (by omega)
    have c1 := hc 1 (by omega)
    have c2 := hc 2 (by omega)
    have eq1 : qs[i] = qe qs i := (qe_eq qs i hi').symm
    refine ⟨?_, ?_, ?_, hE⟩
    · rw [← hE.key, ← eq1]; simpa [ec] using c0
    · rw [← hE.day, ← eq1]; simpa [ec] using c1
    · rw [← eq1]; simpa [ec] using c2
/-- an entry of two lines, and its first line -/
theorem OwnEs.line {w : World} {base : Nat} {v : Value} {m : Nat} {qs : List Ev} {es : List En} (h : OwnEs w base v m qs es) (i : Nat) (hi : i < m) (hl : (ne es i).ls.length = 2) :
    ∃ g k g2 c, v = .slice (some ⟨g, 0, none⟩) m k ∧ m ≤ k ∧ k ≤ maxLen ∧ g < w.heap.size ∧ g2 < w.heap.size ∧ w.cell? ⟨g, i * 3, none⟩ = some (.string (ne es i).key) ∧ w.cell? ⟨g, i * 3 + 1, none⟩ = some (.int .i64 (ne es i).day) ∧ w.cell? ⟨g, i * 3 + 2, none⟩ = some (.slice (some ⟨g2, 0, none⟩) 2 c) ∧
      w.cell? ⟨g2, 0, none⟩ = some (.string (cd (ne es i).ls 0)) ∧ w.cell? ⟨g2, 1, none⟩ = some (.int .i64 (am (ne es i).ls 0)) ∧ Lq w (some ⟨g2, 0, none⟩) 2 c (ne es i).ls ∧ (ne es i).key.size ≤ maxLen := by
  obtain ⟨g, k, e, h1, h2, gl, c0, c1, c2, hE⟩ := h.cells i hi
  have hn : (qe qs i).n = 2 := by rw [← hE.len]; exact hl
  have hq := hE.lq
  have hks := hE.ks
  have hr := hE.row
  rw [hn] at hr c2 hq
  obtain ⟨_, hh | ⟨g2, cap, cur, ev, _, hb, _⟩⟩ := id hr
  · obtain ⟨_, e⟩ := hh; omega
  · injection ev with e1 _ e3
    rw [e1] at hr c2 hq
    have l0 := World.ownsRow.cellAt hr 0 (by omega)
    have l1 := World.ownsRow.cellAt hr 1 (by omega)
    generalize ne es i = y at *
    obtain ⟨ky, dy, ls⟩ := y
    match ls, hl with
    | [a, b], _ => exact ⟨g, k, g2, (qe qs i).c, e, h1, h2, gl, (Array.getElem?_eq_some_iff.1 hb).1, c0, c1, c2, l0, l1, hq, hks⟩

/-- a plan that a law lays -/
theorem Ps.lit {w : World} {g : Nat} {key : ByteArray} {kind frm amt num : Int} {deb cre : ByteArray} (h : Bk w g 78 #[.string key, .int .i64 kind, .int .i64 frm, .int .i64 amt, .int .i64 num, .string deb, .string cre]) (hw : Pwf ⟨key, kind, frm, amt, num, deb, cre⟩) :
    Ps w (some ⟨g, 0, none⟩) [⟨key, kind, frm, amt, num, deb, cre⟩] := by
  refine .inr ⟨_, rfl, h.lt, fun i hi => ?_⟩
  obtain rfl : i = 0 := by simpa using hi
  have e : (⟨g, 0, none⟩ : Addr).add (0 * 7) = ⟨g, 0, none⟩ := by rw [adds]
  rw [e, show np [(⟨key, kind, frm, amt, num, deb, cre⟩ : Pln)] 0 = ⟨key, kind, frm, amt, num, deb, cre⟩ from rfl]
  exact ⟨hw, by simpa using h.cell 0, by simpa using h.cell 1, by simpa using h.cell 2, by simpa using h.cell 3, by simpa using h.cell 4, by simpa using h.cell 5, by simpa using h.cell 6⟩
theorem d3 : IsD 3 0 4 := isD_num 0 4 (by decide) (by decide) (by decide) (by decide) (by decide)
/-- R.Same with an entry that stands in a variable -/
theorem ne_mem {es : List En} {x : En} : x ∈ es ↔ ∃ i, i < es.length ∧ ne es i = x := by
  constructor
  · intro h
    obtain ⟨i, hi, e⟩ := List.mem_iff_getElem.1 h
    exact ⟨i, hi, by rw [ne_eq _ _ hi]; exact e⟩
  · rintro ⟨i, hi, rfl⟩
    rw [ne_eq _ _ hi]
    exact List.getElem_mem hi
end Go.Proofs.YtnlbhaajpkpemaaGreatDoor

/- What is due of plans by the end, in plain Lean: each part once, all of the amounts, entries that are good. -/
namespace Go.Proofs.YtnlbhaajpkpemaaGreatDoor
open Go.ChangeShapes Go.WideShapes Go.ChangeAt Go.RowKit Go.PlainAid
set_option linter.unusedVariables false
set_option maxRecDepth 100000

theorem bt_app (a b : ByteArray) (i : Nat) : bt (a ++ b) i = if i < a.size then bt a i else bt b (i - a.size) := by
  by_cases h : i < (a ++ b).size
  · by_cases h1 : i < a.size
    · rw [if_pos h1]
      unfold bt
      rw [dif_pos h, dif_pos h1, ByteArray.getElem_append_left h1]
    · rw [if_neg h1]
      have h2 : i - a.size < b.size := by rw [ByteArray.size_append] at h; omega
      unfold bt
      rw [dif_pos h, dif_pos h2, ByteArray.getElem_append_right (by omega)]
  · rw [ByteArray.size_append] at h
    rw [bt_end _ (by rw [ByteArray.size_append]; omega), if_neg (by omega), bt_end _ (by omega)]
theorem pk_size (s : ByteArray) (k : Nat) : (pk s k).size = s.size + 3 := by
  unfold pk
  rw [ByteArray.size_append, ByteArray.size_append]
  rfl
theorem pk_bt (s : ByteArray) (k i : Nat) : bt (pk s k) i = if i < s.size then bt s i else if i = s.size then 45 else bt (two k) (i - s.size - 1) := by
  unfold pk
  rw [bt_app, bt_app, ByteArray.size_append]
  show (if i < s.size + 1 then (if i < s.size then bt s i else bt dash (i - s.size)) else bt (two k) (i - (s.size + 1))) = _
  by_cases h1 : i < s.size
  · rw [if_pos (by omega), if_pos h1, if_pos h1]
  · rw [if_neg h1]
    by_cases h2 : i = s.size
    · rw [if_pos (by omega), if_neg h1, if_pos h2, h2, Nat.sub_self]; rfl
    · rw [if_neg (by omega), if_neg h1, if_neg h2, Nat.sub_sub]
theorem two_bt (k : Nat) (h : k < 100) : bt (two k) 0 = 48 + k / 10 ∧ bt (two k) 1 = 48 + k % 10 := by
  have e0 : bt (two k) 0 = ((UInt8.ofNat (48 + k / 10)).toNat : Int) := rfl
  have e1 : bt (two k) 1 = ((UInt8.ofNat (48 + k % 10)).toNat : Int) := rfl
  rw [e0, e1, UInt8.toNat_ofNat', UInt8.toNat_ofNat']
  omega
theorem pk_key {s : ByteArray} {k : Nat} (h : keyB s = true) (h9 : s.size ≤ 9) (hk : k < 40) : keyB (pk s k) = true := by
  unfold keyB at h ⊢
  simp only [Bool.and_eq_true, decide_eq_true_eq] at h ⊢
  obtain ⟨⟨h1, h2⟩, h3⟩ := h
  refine ⟨⟨by rw [pk_size]; omega, by rw [pk_size]; omega⟩, ?_⟩
  unfold allB at h3 ⊢
  rw [List.all_eq_true] at h3 ⊢
  intro i hi
  rw [List.mem_range, pk_size] at hi
  rw [pk_bt]
  by_cases e1 : i < s.size
  · rw [if_pos e1]; exact h3 i (List.mem_range.2 e1)
  · rw [if_neg e1]
    by_cases e2 : i = s.size
    · rw [if_pos e2]; decide
    · rw [if_neg e2]
      obtain ⟨b0, b1⟩ := two_bt k (by omega)
      have : i - s.size - 1 = 0 ∨ i - s.size - 1 = 1 := by omega
      rcases this with e | e <;> rw [e]
      · rw [b0]; unfold keyC; simp only [Bool.or_eq_true, Bool.and_eq_true, decide_eq_true_eq]; omega
      · rw [b1]; unfold keyC; simp only [Bool.or_eq_true, Bool.and_eq_true, decide_eq_true_eq]; omega
theorem stB_le (D n k : Int) (h1 : 0 ≤ D) (h5 : 1 ≤ n) (h8 : k ≤ n) : stB D n k ≤ D := by
  unfold stB
  refine rnd_le _ _ _ _ h5 ?_
  rw [Int.mul_comm n D]
  exact Int.mul_le_mul_of_nonneg_left h8 h1
theorem partP_tt {p : Pln} (h : Pok p) {k : Nat} (hk : (k : Int) < p.num) : -1000000000000 ≤ partP p k ∧ partP p k ≤ 1000000000000 := by
  have h1 := h.num0
  have h9 := h.num9
  have ha := h.amt9
  unfold partP
  split
  · unfold dgP
    have a := dgB_bd p.amt p.num ((k : Int) + 1) h.amt0 h.amt9 h1 h9 (by omega) (by omega)
    have b := dgB_bd p.amt p.num (k : Int) h.amt0 h.amt9 h1 h9 (by omega) (by omega)
    have c := dgB_le p.amt p.num ((k : Int) + 1) h.amt0 h1 h9 (by omega) (by omega) h.amt9
    have d := dgB_le p.amt p.num (k : Int) h.amt0 h1 h9 (by omega) (by omega) h.amt9
    omega
  · unfold stP
    have a := stB_bd p.amt p.num ((k : Int) + 1) h.amt0 h.amt9 h1 (by omega) (by omega)
    have b := stB_bd p.amt p.num (k : Int) h.amt0 h.amt9 h1 (by omega) (by omega)
    have c := stB_le p.amt p.num ((k : Int) + 1) h.amt0 h1 (by omega)
    have d := stB_le p.amt p.num (k : Int) h.amt0 h1 (by omega)
    omega

theorem mkE_enc {p : Pln} (h : Pok p) {k : Nat} (hk : k < p.num.toNat) (hn : partP p k ≠ 0) : enc (mkE p k) = 0 := by
  have hn9 := h.num9
  have hn0 := h.num0
  have ⟨b1, b2⟩ := partP_tt h (k := k) (by omega)
  have hk2 := pok_k h (k := (k : Int)) (by omega) (by omega)
  have hd := (ad_isD h.frm0 h.frm9 hk2.1 hk2.2).bd
  show entc (pk p.key k) (ad p.frm k) [(p.deb, partP p k), (p.cre, - partP p k)] = 0
  unfold entc
  rw [pk_key h.key h.short (by omega), if_neg (by simp), if_neg (by omega)]
  generalize partP p k = t at *
  unfold linec
  rw [if_neg (by simp)]
  have l0 : lnAt [(p.deb, t), (p.cre, -t)] 0 = 0 := by
    unfold lnAt
    show (if codeB p.deb = false then (3 : Int) else if t < -1000000000000 ∨ 1000000000000 < t ∨ t = 0 then 1 else if twB [(p.deb, t), (p.cre, -t)] 0 = true then 5 else 0) = 0
    rw [if_neg (by simp [h.deb]), if_neg (by omega), if_neg (by simp [twB])]
  have l1 : lnAt [(p.deb, t), (p.cre, -t)] 1 = 0 := by
    unfold lnAt
    show (if codeB p.cre = false then (3 : Int) else if -t < -1000000000000 ∨ 1000000000000 < -t ∨ -t = 0 then 1 else if twB [(p.deb, t), (p.cre, -t)] 1 = true then 5 else 0) = 0
    rw [if_neg (by simp [h.cre]), if_neg (by omega), if_neg]
    unfold twB
    show ¬ ([0].any fun j => decide (cd [(p.deb, t), (p.cre, -t)] j = p.cre)) = true
    simp only [List.any_cons, List.any_nil, Bool.or_false, decide_eq_true_eq]
    exact h.two
  have lu : lnUp [(p.deb, t), (p.cre, -t)] 2 = 0 := lnUp_all fun i hi => by
    match i, hi with
    | 0, _ => exact l0
    | 1, _ => exact l1
  show (if lnUp [(p.deb, t), (p.cre, -t)] 2 ≠ 0 then lnUp [(p.deb, t), (p.cre, -t)] 2 else if 2 < 2 ∨ amS [(p.deb, t), (p.cre, -t)] 2 ≠ 0 then 7 else 0) = 0
  rw [if_neg (by simp [lu]), if_neg]
  show ¬ (2 < 2 ∨ 0 + t + -t ≠ 0)
  omega
/-- the amount of an entry's first line -/
def fa (x : En) : Int := am x.ls 0
theorem due1_key {p : Pln} {day : Int} {x : En} (h : x ∈ due1 p day) : ∃ k, k < p.num.toNat ∧ ad p.frm k ≤ day ∧ partP p k ≠ 0 ∧ x = mkE p k := dueK_mem.1 h
theorem pok_mem {ps : List Pln} (h : plc ps = 0) : (∀ p ∈ ps, Pok p) ∧ ps.Pairwise fun p q => p.key ≠ q.key := by
  obtain ⟨_, h2, h3⟩ := plc_ok h
  refine ⟨fun p hp => ?_, ?_⟩
  · obtain ⟨i, hi, rfl⟩ := List.mem_iff_getElem.1 hp
    rw [← np_eq ps i hi]; exact h2 i hi
  · rw [List.pairwise_iff_getElem]
    intro i j hi hj hij
    rw [← np_eq ps i hi, ← np_eq ps j hj]
    exact h3 i j hij hj
theorem dueP_mem {ps : List Pln} {day : Int} {x : En} (h : x ∈ dueP ps day) : ∃ p ∈ ps, ∃ k, k < p.num.toNat ∧ ad p.frm k ≤ day ∧ partP p k ≠ 0 ∧ x = mkE p k := by
  unfold dueP at h
  obtain ⟨p, hp, h⟩ := List.mem_flatMap.1 h
  exact ⟨p, hp, due1_key h⟩
theorem dueP_enc {ps : List Pln} (h : plc ps = 0) {day : Int} {x : En} (hx : x ∈ dueP ps day) : enc x = 0 ∧ x.day ≤ day ∧ x.ls.length = 2 ∧ -1000000000000 ≤ fa x ∧ fa x ≤ 1000000000000 := by
  obtain ⟨p, hp, k, hk, h1, h2, rfl⟩ := dueP_mem hx
  have hp0 := (pok_mem h).1 p hp
  exact ⟨mkE_enc hp0 hk h2, h1, rfl, partP_tt hp0 (by omega)⟩

end Go.Proofs.YtnlbhaajpkpemaaGreatDoor

/- The walk of job.Run. -/
namespace Go.Proofs.YtnlbhaajpkpemaaGreatDoor
open Go.ChangeShapes Go.WideShapes Go.ChangeAt Go.RowKit Go.PlainAid
set_option linter.unusedVariables false
set_option maxRecDepth 100000

/-- what goes wrong first where entries are posted one after another -/
def puc (b : Bok) (es : List En) : Nat → Int
  | 0 => 0
  | k + 1 => if puc b es k ≠ 0 then puc b es k else postc (madeb b (es.take k)) (ne es k)
theorem puc_bad {b : Bok} {es : List En} {k n : Nat} (h : puc b es k = 0) (hb : postc (madeb b (es.take k)) (ne es k) ≠ 0) (hk : k < n) : puc b es n = postc (madeb b (es.take k)) (ne es k) := by
  induction n with
  | zero => omega
  | succ n ih =>
    by_cases e : k = n
    · subst e
      show (if puc b es k ≠ 0 then puc b es k else postc (madeb b (es.take k)) (ne es k)) = _
      rw [if_neg (by simp [h])]
    · show (if puc b es n ≠ 0 then puc b es n else postc (madeb b (es.take n)) (ne es n)) = _
      rw [ih (by omega), if_pos hb]
theorem puc_ok {b : Bok} {es : List En} {k : Nat} (h : puc b es k = 0) (hb : postc (madeb b (es.take k)) (ne es k) = 0) : puc b es (k + 1) = 0 := by
  show (if puc b es k ≠ 0 then puc b es k else postc (madeb b (es.take k)) (ne es k)) = 0
  rw [if_neg (by simp [h]), hb]
theorem puc_at {b : Bok} {es : List En} {k n : Nat} (h : puc b es n = 0) (hk : k < n) : postc (madeb b (es.take k)) (ne es k) = 0 := by
  induction n with
  | zero => omega
  | succ n ih =>
    have h' : (if puc b es n ≠ 0 then puc b es n else postc (madeb b (es.take n)) (ne es n)) = 0 := h
    by_cases e : puc b es n = 0
    · rw [if_neg (by simp [e])] at h'
      by_cases e2 : k = n
      · subst e2; exact h'
      · exact ih e (by omega)
    · rw [if_pos e] at h'; exact absurd h' e
/-- what goes wrong where plans are run -/
noncomputable def runc (b : Bok) (ps : List Pln) (day : Int) : Int := if bookc b ≠ 0 then bookc b else if plc ps ≠ 0 then plc ps else puc b (dueP ps day) (dueP ps day).length

def RunNo (w : World) (r : Int) (e : Ending) (w' : World) : Prop := e = .returned (.tuple #[bv none 0 0 none 0 0 0, .int .i64 r]) ∧ Mor w w'
set_option maxRecDepth 100000 in
set_option maxHeartbeats 1600000 in
theorem run_bad1 (A : Option Addr) (n c : Nat) (X : Option Addr) (m k : Nat) (b : Bok) (L : Option Addr) (p q : Nat) (ps : List Pln) (day : Int) (w : World) (hb : Bq w A n c X m k b) (hr : Ps w L ps) (hn : ps.length = p) (hcap : p ≤ q) (hml : q ≤ maxLen) (ht : Tab w) (d0 : 0 ≤ day) (d9 : day ≤ 292193) (hc : bookc b ≠ 0) :
    Calls Tryz.prog 15 #[bv A n c X m k b.shut, .slice L p q, .int .i64 day] w (RunNo w (bookc b)) := by
  have HCk := Lib.hid (fun w' (h : Mor w w') => bcheck_any A n c X m k b w' (hb.mor h))
  have hb2 : (bookc b != 0) = true := by simpa using hc
  generalize b.shut = sh at *
  generalize bookc b = r at *
  clear hb hr hn ht
  go_enter Tryz.func15, Tryz.ntmps15
  go_wp2_with fail
  have hM0 := ((Mor.refl w).alloc (o := .cells #[.slice A n c, .slice X m k, .int .i64 sh] 25)).alloc (o := .cells #[.slice none 0 0, .slice none 0 0, .int .i64 0] 25)
  have hbP0 := (Bk.new w 25 #[.slice A n c, .slice X m k, .int .i64 sh]).alloc (.cells #[.slice none 0 0, .slice none 0 0, .int .i64 0] 25)
  have hbR0 := Bk.new (w.alloc (.cells #[.slice A n c, .slice X m k, .int .i64 sh] 25)) 25 #[.slice none 0 0, .slice none 0 0, .int .i64 0]
  rw [← sz1] at hbR0
  obtain ⟨bP, hgP⟩ : ∃ g, g = w.heap.size := ⟨_, rfl⟩
  rw [← hgP] at hbP0 hbR0 ⊢
  obtain ⟨bR, hgR⟩ : ∃ g, g = bP + 1 := ⟨_, rfl⟩
  rw [← hgR] at hbR0 ⊢
  generalize (w.alloc (.cells #[.slice A n c, .slice X m k, .int .i64 sh] 25)).alloc (.cells #[.slice none 0 0, .slice none 0 0, .int .i64 0] 25) = w0 at *
  have hgPw : w.heap.size ≤ bP := by omega
  have hgRw : w.heap.size ≤ bR := by omega
  have hPR : bP ≠ bR := by omega
  have hRP : bR ≠ bP := by omega
  have HP := Lib.hid (fun w' (h : Mor w0 w') => hbP0.mor h)
  have HR := Lib.hid (fun w' (h : Mor w0 w') => hbR0.mor h)
  have HM0 := Lib.hid hM0
  clear hgP hgR hM0 hbP0 hbR0
  refine (HCk.out _ HM0.out).mono ?_
  rintro e w2 ⟨rfl, hm⟩
  have HM2 := Lib.hid hm
  clear hm
  have hR := HR.out _ HM2.out
  have f0 := hR.frozen 0
  have f1 := hR.frozen 1
  have f2 := hR.frozen 2
  have r0 := hR.cell 0
  have r1 := hR.cell 1
  have r2 := hR.cell 2
  have rl := hR.lt
  simp at r0 r1 r2
  have HRx := Lib.hid hR
  have HMx := Lib.hid (HM0.out.trans' HM2.out)
  clear hR
  go_wp2_with fail
  have hb9 := ((HRx.out.set_ 0 (.slice none 0 0)).set_ 1 (.slice none 0 0)).set_ 2 (.int .i64 0)
  simp only [List.setIfInBounds_toArray, List.set_cons_zero, List.set_cons_succ] at hb9
  have hm9 := ((HMx.out.setC (i := 0) (u := .slice none 0 0) hgRw).setC (i := 1) (u := .slice none 0 0) hgRw).setC (i := 2) (u := .int .i64 0) hgRw
  have q0 := hb9.cell 0
  have q1 := hb9.cell 1
  have q2 := hb9.cell 2
  simp at q0 q1 q2
  refine bodyPost_ret (v := .tuple #[bv none 0 0 none 0 0 0, .int .i64 r]) (by simp [results, Tryz.results15, go_sem, q0, q1, q2]; try rfl) rfl ?_
  exact ⟨rfl, hm9⟩

set_option maxRecDepth 100000 in
set_option maxHeartbeats 1600000 in
theorem run_bad2 (A : Option Addr) (n c : Nat) (X : Option Addr) (m k : Nat) (b : Bok) (L : Option Addr) (p q : Nat) (ps : List Pln) (day : Int) (w : World) (hb : Bq w A n c X m k b) (hr : Ps w L ps) (hn : ps.length = p) (hcap : p ≤ q) (hml : q ≤ maxLen) (ht : Tab w) (d0 : 0 ≤ day) (d9 : day ≤ 292193) (hc : bookc b = 0) (hc2 : plc ps ≠ 0) :
    Calls Tryz.prog 15 #[bv A n c X m k b.shut, .slice L p q, .int .i64 day] w (RunNo w (plc ps)) := by
  have HCk := Lib.hid (fun w' (h : Mor w w') => bcheck_any A n c X m k b w' (hb.mor h))
  have HDu := Lib.hid (fun w' (h : Mor w w') => due_no L p q ps day w' (hr.mor h) hn hcap hml (ht.mor h) hc2)
  rw [hc] at HCk
  have hb2 : (plc ps != 0) = true := by simpa using hc2
  generalize b.shut = sh at *
  generalize plc ps = r at *
  clear hb hr hn ht
  go_enter Tryz.func15, Tryz.ntmps15
  go_wp2_with fail
  have hM0 := ((Mor.refl w).alloc (o := .cells #[.slice A n c, .slice X m k, .int .i64 sh] 25)).alloc (o := .cells #[.slice none 0 0, .slice none 0 0, .int .i64 0] 25)
  have hbP0 := (Bk.new w 25 #[.slice A n c, .slice X m k, .int .i64 sh]).alloc (.cells #[.slice none 0 0, .slice none 0 0, .int .i64 0] 25)
  have hbR0 := Bk.new (w.alloc (.cells #[.slice A n c, .slice X m k, .int .i64 sh] 25)) 25 #[.slice none 0 0, .slice none 0 0, .int .i64 0]
  rw [← sz1] at hbR0
  obtain ⟨bP, hgP⟩ : ∃ g, g = w.heap.size := ⟨_, rfl⟩
  rw [← hgP] at hbP0 hbR0 ⊢
  obtain ⟨bR, hgR⟩ : ∃ g, g = bP + 1 := ⟨_, rfl⟩
  rw [← hgR] at hbR0 ⊢
  generalize (w.alloc (.cells #[.slice A n c, .slice X m k, .int .i64 sh] 25)).alloc (.cells #[.slice none 0 0, .slice none 0 0, .int .i64 0] 25) = w0 at *
  have hgPw : w.heap.size ≤ bP := by omega
  have hgRw : w.heap.size ≤ bR := by omega
  have hPR : bP ≠ bR := by omega
  have hRP : bR ≠ bP := by omega
  have HP := Lib.hid (fun w' (h : Mor w0 w') => hbP0.mor h)
  have HR := Lib.hid (fun w' (h : Mor w0 w') => hbR0.mor h)
  have HM0 := Lib.hid hM0
  clear hgP hgR hM0 hbP0 hbR0
  refine (HCk.out _ HM0.out).mono ?_
  rintro e w2 ⟨rfl, hm⟩
  have HM2 := Lib.hid hm
  clear hm
  have hP := HP.out _ HM2.out
  have p0 := hP.cell 0
  have p1 := hP.cell 1
  have p2 := hP.cell 2
  have pl := hP.lt
  simp at p0 p1 p2
  go_wp2_with fail
  refine (HDu.out _ (HM0.out.trans' HM2.out)).mono ?_
  rintro e w3 ⟨rfl, hm⟩
  have HM3 := Lib.hid (HM2.out.trans' hm)
  clear hm hP p0 p1 p2 pl
  have hR := HR.out _ HM3.out
  have f0 := hR.frozen 0
  have f1 := hR.frozen 1
  have f2 := hR.frozen 2
  have r0 := hR.cell 0
  have r1 := hR.cell 1
  have r2 := hR.cell 2
  have rl := hR.lt
  simp at r0 r1 r2
  have HRx := Lib.hid hR
  have HMx := Lib.hid (HM0.out.trans' HM3.out)
  clear hR
  go_wp2_with fail
  have hb9 := ((HRx.out.set_ 0 (.slice none 0 0)).set_ 1 (.slice none 0 0)).set_ 2 (.int .i64 0)
  simp only [List.setIfInBounds_toArray, List.set_cons_zero, List.set_cons_succ] at hb9
  have hm9 := ((HMx.out.setC (i := 0) (u := .slice none 0 0) hgRw).setC (i := 1) (u := .slice none 0 0) hgRw).setC (i := 2) (u := .int .i64 0) hgRw
  have q0 := hb9.cell 0
  have q1 := hb9.cell 1
  have q2 := hb9.cell 2
  simp at q0 q1 q2
  refine bodyPost_ret (v := .tuple #[bv none 0 0 none 0 0 0, .int .i64 r]) (by simp [results, Tryz.results15, go_sem, q0, q1, q2]; try rfl) rfl ?_
  exact ⟨rfl, hm9⟩

set_option maxRecDepth 100000 in
set_option maxHeartbeats 3200000 in
theorem run_go (A : Option Addr) (n c : Nat) (X : Option Addr) (m k : Nat) (b : Bok) (L : Option Addr) (p q : Nat) (ps : List Pln) (day : Int) (w : World) (hb : Bq w A n c X m k b) (hr : Ps w L ps) (hn : ps.length = p) (hcap : p ≤ q) (hml : q ≤ maxLen) (ht : Tab w) (d0 : 0 ≤ day) (d9 : day ≤ 292193) (hc : bookc b = 0) (hc2 : plc ps = 0) :
    Calls Tryz.prog 15 #[bv A n c X m k b.shut, .slice L p q, .int .i64 day] w fun e w' =>
      (puc b (dueP ps day) (dueP ps day).length ≠ 0 ∧ RunNo w (puc b (dueP ps day) (dueP ps day).length) e w') ∨ (puc b (dueP ps day) (dueP ps day).length = 0 ∧ PostYes w (madeb b (dueP ps day)) e w') := by
  have HCk := Lib.hid (fun w' (h : Mor w w') => bcheck_any A n c X m k b w' (hb.mor h))
  have HDu := Lib.hid (fun w' (h : Mor w w') => due_any L p q ps day w' (hr.mor h) hn hcap hml (ht.mor h) d0 d9)
  rw [hc] at HCk
  rw [hc2, duev_ok hc2] at HDu
  have hbo := (bookc_iff b).1 hc
  have hm60 : m ≤ 60 := by rw [← hb.length]; exact hbo.len
  have hn24 : n ≤ 24 := by rw [← hb.ac.length]; exact (acc_len hbo.ac)
  have HCp := Lib.hid (fun w' (h : Mor w w') => copied_any A n c X m k b w' (hb.mor h) (by omega) (by omega) (fun y hy => by have := (linec_ok (entc_ok (hbo.enc y hy)).2.2.2).1; omega))
  have HLe : (dueP ps day).length ≤ 480 := by
    have h1 := plc_ok hc2
    have := dueP_le ps day h1.2.1 ps.length (Nat.le_refl _)
    rw [List.take_of_length_le (Nat.le_refl _)] at this
    omega
  have HSh := Lib.hid (fun es => (madeb_ac b es).2)
  have HAc := Lib.hid (fun es => (madeb_ac b es).1)
  generalize hsh : b.shut = sh at *
  have HB0 := Lib.hid hsh
  have HAl := Lib.hid hb.ac.length
  generalize dueP ps day = es at *
  clear hb hr hn ht hsh hbo
  go_enter Tryz.func15, Tryz.ntmps15
  go_wp2_with fail
  have hM0 := ((Mor.refl w).alloc (o := .cells #[.slice A n c, .slice X m k, .int .i64 sh] 25)).alloc (o := .cells #[.slice none 0 0, .slice none 0 0, .int .i64 0] 25)
  have hbP0 := (Bk.new w 25 #[.slice A n c, .slice X m k, .int .i64 sh]).alloc (.cells #[.slice none 0 0, .slice none 0 0, .int .i64 0] 25)
  have hbR0 := Bk.new (w.alloc (.cells #[.slice A n c, .slice X m k, .int .i64 sh] 25)) 25 #[.slice none 0 0, .slice none 0 0, .int .i64 0]
  rw [← sz1] at hbR0
  obtain ⟨bP, hgP⟩ : ∃ g, g = w.heap.size := ⟨_, rfl⟩
  rw [← hgP] at hbP0 hbR0 ⊢
  obtain ⟨bR, hgR⟩ : ∃ g, g = bP + 1 := ⟨_, rfl⟩
  rw [← hgR] at hbR0 ⊢
  generalize (w.alloc (.cells #[.slice A n c, .slice X m k, .int .i64 sh] 25)).alloc (.cells #[.slice none 0 0, .slice none 0 0, .int .i64 0] 25) = w0 at *
  have hgPw : w.heap.size ≤ bP := by omega
  have hgRw : w.heap.size ≤ bR := by omega
  have hPR : bP ≠ bR := by omega
  have hRP : bR ≠ bP := by omega
  have HP := Lib.hid (fun w' (h : Mor w0 w') => hbP0.mor h)
  have HR := Lib.hid (fun w' (h : Mor w0 w') => hbR0.mor h)
  have HM0 := Lib.hid hM0
  clear hgP hgR hM0 hbP0 hbR0
  refine (HCk.out _ HM0.out).mono ?_
  rintro e w2 ⟨rfl, hm⟩
  have HM2 := Lib.hid hm
  clear hm
  have hP := HP.out _ HM2.out
  have p0 := hP.cell 0
  have p1 := hP.cell 1
  have p2 := hP.cell 2
  have pl := hP.lt
  simp at p0 p1 p2
  go_wp2_with fail
  refine (HDu.out _ (HM0.out.trans' HM2.out)).mono ?_
  rintro e w3 ⟨Xd, md, kd, qs, rfl, hld, hod, hm⟩
  have HM3 := Lib.hid (HM2.out.trans' hm)
  have HOd := Lib.hid hod
  have HLd := Lib.hid hld
  clear hm hP p0 p1 p2 pl hod hld HDu HCk
  have hP := HP.out _ HM3.out
  have p0 := hP.cell 0
  have p1 := hP.cell 1
  have p2 := hP.cell 2
  have pl := hP.lt
  simp at p0 p1 p2
  go_wp2_with fail
  refine (HCp.out _ (HM0.out.trans' HM3.out)).mono ?_
  rintro e w4 ⟨vA, vX, rfl, ho4, hm⟩
  rw [HB0.out]
  obtain ⟨A5, c5, X5, k5, rfl, rfl, -⟩ := ho4.bq
  have HM4 := Lib.hid (HM3.out.trans' hm)
  have HOd4 := Lib.hid (HOd.out.mor hm)
  have how : w.heap.size ≤ w3.heap.size := (HM0.out.trans' HM3.out).below.size
  have ho5 := (ho4.base how).mor ((Mor.refl w4).alloc (o := .cells #[.slice A5 n c5, .slice X5 m k5, .int .i64 sh] 25))
  have hO5 := Bk.new w4 25 #[.slice A5 n c5, .slice X5 m k5, .int .i64 sh]
  have hM5 := (Mor.refl w4).alloc (o := .cells #[.slice A5 n c5, .slice X5 m k5, .int .i64 sh] 25)
  clear hm ho4 hP p0 p1 p2 pl HCp HOd
  go_wp2_with fail
  obtain ⟨bO, hbO⟩ : ∃ g, g = w4.heap.size := ⟨_, rfl⟩
  rw [← hbO] at hO5 ⊢
  generalize w4.alloc (.cells #[.slice A5 n c5, .slice X5 m k5, .int .i64 sh] 25) = w5 at *
  have hgO : w4.heap.size ≤ bO := by omega
  have hRO : bR < bO := by have := (HR.out _ HM4.out).lt; omega
  have hgOw : w.heap.size ≤ bO := by omega
  clear hbO how
  obtain ⟨Xd', kd', ed, hdk, hd63, -, hdes⟩ := HOd4.out.shape
  injection ed with ed1 _ ed3
  subst ed1 ed3
  have HEd := Lib.hid (fun w' (h : Mor w4 w') => hdes.mor h)
  have hmd : md ≤ 480 := by rw [← HLd.out]; exact HLe
  unfold maxLen at hd63
  clear hdes HOd4
  go_loopw [34] (fun i wr => ∃ (j : Nat) (A' : Option Addr) (c' : Nat) (X' : Option Addr) (m' k' : Nat), j ≤ md ∧ i = .int .i64 j ∧ Hid (puc b es j = 0) ∧ Hid (Bk wr bO 25 #[.slice A' n c', .slice X' m' k', .int .i64 sh] ∧ OwnB wr w.heap.size (.slice A' n c') (.slice X' m' k') n m' (madeb b (es.take j)) ∧ Mor w4 wr)) (fun i _ => md - (intOf i).toNat)
  case atStart => exact ⟨0, A5, c5, X5, m, k5, Nat.zero_le _, rfl, Lib.hid rfl, Lib.hid ⟨hO5, by rw [List.take_zero]; exact ho5, hM5⟩⟩
  case round =>
    clear hO5 ho5 hM5
    obtain ⟨j, A', c', X', m', k', hj, rfl, HPu, HJ⟩ := hrel
    obtain ⟨hO, hown, hm⟩ := HJ.out
    have c0 := hO.cell 0
    have c1 := hO.cell 1
    have c2 := hO.cell 2
    have cl := hO.lt
    simp at c0 c1 c2
    by_cases hlt : j < md
    · have hji : (j : Int) < (md : Int) := by omega
      have hj0 : (0 : Int) ≤ (j : Int) := by omega
      have hjl : j < es.length := by rw [HLd.out]; omega
      obtain ⟨x, A2, n2, c2', hE, hxb, hks, d0, d1, d2, hlq⟩ := (HEd.out _ hm).at_ j hjl
      subst hE
      have HTk := Lib.hid (madeb_take b es j hjl)
      have hbq := own_bq hown
      have hsj := HSh.out (es.take j)
      have haj := hbq.ac.length
      have HPb := Lib.hid (fun (h : postc (madeb b (es.take j)) (ne es j) ≠ 0) => puc_bad HPu.out h (show j < es.length from hjl))
      have HPo := Lib.hid (fun (h : postc (madeb b (es.take j)) (ne es j) = 0) => puc_ok HPu.out h)
      generalize madeb b (es.take j) = bj at *
      generalize ne es j = y at *
      obtain ⟨ky, dy, ls⟩ := y
      dsimp only at d0 d1 hks hlq
      have HPn := Lib.hid (fun w' (h : Mor wr w') (hc : postc bj ⟨ky, dy, ls⟩ ≠ 0) => show Calls Tryz.prog 9 #[bv A' n c' X' m' k' sh, .agg #[.string ky, .int .i64 dy, .slice A2 n2 c2']] w' (PostNo w' (postc bj ⟨ky, dy, ls⟩)) by
        have h3 := post_no A' n c' X' m' k' bj ⟨ky, dy, ls⟩ A2 n2 c2' w' (hbq.mor h) (hlq.mor h) hks hc
        rw [hsj] at h3
        exact h3)
      have HPy := Lib.hid (fun w' (h : Mor wr w') (hc : postc bj ⟨ky, dy, ls⟩ = 0) => show Calls Tryz.prog 9 #[bv A' n c' X' m' k' sh, .agg #[.string ky, .int .i64 dy, .slice A2 n2 c2']] w' (fun e w'' => ∃ A c X m k, e = .returned (.tuple #[bv A n c X m k sh, .int .i64 0]) ∧ OwnB w'' w'.heap.size (.slice A n c) (.slice X m k) n m (stepb bj ⟨ky, dy, ls⟩) ∧ Mor w' w'') by
        have h3 := post_yes A' n c' X' m' k' bj ⟨ky, dy, ls⟩ A2 n2 c2' w' (hbq.mor h) (hlq.mor h) hks hc
        rw [hsj] at h3
        refine h3.mono fun e w'' h => ?_
        obtain ⟨A9, c9, X9, m9, k9, he, ho, hm9⟩ := postYes_own h (n := n) (by rw [(post_ac _ _).1]; exact haj)
        rw [(post_ac _ _).2, hsj] at he
        exact ⟨A9, c9, X9, m9, k9, he, by rw [stepb_yes hc]; exact ho, hm9⟩)
      have HR2 := Lib.hid (fun w' (h : Mor wr w') => And.intro (hO.mor h) (hm.trans' h))
      have hww := (HM0.out.trans' (HM4.out.trans' hm)).below.size
      clear hO hown hm hbq hlq haj hsj HJ hks
      by_cases hc : postc bj ⟨ky, dy, ls⟩ = 0
      · have HP := Lib.hid (fun w' h => HPy.out w' h hc)
        have HPz := Lib.hid (HPo.out hc)
        clear hc HPn HPy HPb HPo
        go_wp2_with fail
        refine (HP.out _ (Mor.refl _).alloc).mono ?_
        rintro e w6 ⟨A9, c9, X9, m9, k9, rfl, ho, hm4⟩
        obtain ⟨hO, hm⟩ := HR2.out _ ((Mor.refl _).alloc.trans' hm4)
        have HOw := Lib.hid (ho.base (base' := w.heap.size) (by simp; omega))
        have HO4 := Lib.hid hO
        have HM5 := Lib.hid hm
        have cl := hO.lt
        have f0 := hO.frozen 0
        have f1 := hO.frozen 1
        have f2 := hO.frozen 2
        clear c0 c1 c2
        have c0 := hO.cell 0
        have c1 := hO.cell 1
        have c2 := hO.cell 2
        simp at c0 c1 c2
        clear hO hm4 hm ho HR2
        go_wp2_with fail
        go_roundw
        case rel =>
          have hb9 := ((HO4.out.set_ 0 (.slice A9 n c9)).set_ 1 (.slice X9 m9 k9)).set_ 2 (.int .i64 sh)
          simp only [List.setIfInBounds_toArray, List.set_cons_zero, List.set_cons_succ] at hb9
          have hm9 := ((HM5.out.setC (i := 0) (u := .slice A9 n c9) hgO).setC (i := 1) (u := .slice X9 m9 k9) hgO).setC (i := 2) (u := .int .i64 sh) hgO
          exact ⟨j + 1, A9, c9, X9, m9, k9, by omega, by go_num, HPz, Lib.hid ⟨hb9, by rw [HTk.out]; exact own3 HOw.out HO4.out, hm9⟩⟩
        case measure => simp [intOf]; omega
      · have HP := Lib.hid (fun w' h => HPn.out w' h hc)
        have HPz := Lib.hid (HPb.out hc)
        have hrb : (postc bj ⟨ky, dy, ls⟩ != 0) = true := by simpa using hc
        have HCn := Lib.hid hc
        generalize postc bj ⟨ky, dy, ls⟩ = r at *
        clear hc HPn HPy HPb HPo
        go_wp2_with fail
        refine (HP.out _ (Mor.refl _).alloc).mono ?_
        rintro e w6 ⟨rfl, hm4⟩
        obtain ⟨hO, hm⟩ := HR2.out _ ((Mor.refl _).alloc.trans' hm4)
        have hO9 := ((hO.set_ 0 (.slice none 0 0)).set_ 1 (.slice none 0 0)).set_ 2 (.int .i64 0)
        have hR9 := (((HR.out _ (HM4.out.trans' hm)).set_other bO 0 (.slice none 0 0) (by omega)).set_other bO 1 (.slice none 0 0) (by omega)).set_other bO 2 (.int .i64 0) (by omega)
        have hM9 := ((hm.setC (i := 0) (u := .slice none 0 0) hgO).setC (i := 1) (u := .slice none 0 0) hgO).setC (i := 2) (u := .int .i64 0) hgO
        have cl := hO.lt
        have f0 := hO.frozen 0
        have f1 := hO.frozen 1
        have f2 := hO.frozen 2
        clear c0 c1 c2
        have c0 := hO.cell 0
        have c1 := hO.cell 1
        have c2 := hO.cell 2
        simp at c0 c1 c2
        have g0 := hR9.frozen 0
        have g1 := hR9.frozen 1
        have g2 := hR9.frozen 2
        have r0 := hR9.cell 0
        have r1 := hR9.cell 1
        have r2 := hR9.cell 2
        have rl := hR9.lt
        simp at r0 r1 r2
        have HRx := Lib.hid hR9
        have HMx := Lib.hid ((HM0.out.trans' HM4.out).trans' hM9)
        clear hO hm4 hm HR2 hO9 hR9 hM9
        go_wp2_with fail
        have hb9 := ((HRx.out.set_ 0 (.slice none 0 0)).set_ 1 (.slice none 0 0)).set_ 2 (.int .i64 0)
        simp only [List.setIfInBounds_toArray, List.set_cons_zero, List.set_cons_succ] at hb9
        have hm9 := ((HMx.out.setC (i := 0) (u := .slice none 0 0) hgRw).setC (i := 1) (u := .slice none 0 0) hgRw).setC (i := 2) (u := .int .i64 0) hgRw
        have q0 := hb9.cell 0
        have q1 := hb9.cell 1
        have q2 := hb9.cell 2
        simp at q0 q1 q2
        refine bodyPost_ret (v := .tuple #[bv none 0 0 none 0 0 0, .int .i64 r]) (by simp [results, Tryz.results15, go_sem, q0, q1, q2]; try rfl) rfl ?_
        refine .inl ⟨by rw [HPz.out]; exact HCn.out, by rw [HPz.out]; exact ⟨rfl, hm9⟩⟩
    · obtain rfl : j = md := by omega
      have HOw := Lib.hid hown
      have HMx := Lib.hid ((HM0.out.trans' HM4.out).trans' hm)
      have hR := HR.out _ (HM4.out.trans' hm)
      have f0 := hR.frozen 0
      have f1 := hR.frozen 1
      have f2 := hR.frozen 2
      have r0 := hR.cell 0
      have r1 := hR.cell 1
      have r2 := hR.cell 2
      have rl := hR.lt
      simp at r0 r1 r2
      have HRx := Lib.hid hR
      clear hR hO hown hm HJ
      go_wp2_with fail
      have hb9 := ((HRx.out.set_ 0 (.slice A' n c')).set_ 1 (.slice X' m' k')).set_ 2 (.int .i64 sh)
      simp only [List.setIfInBounds_toArray, List.set_cons_zero, List.set_cons_succ] at hb9
      have hm9 := ((HMx.out.setC (i := 0) (u := .slice A' n c') hgRw).setC (i := 1) (u := .slice X' m' k') hgRw).setC (i := 2) (u := .int .i64 sh) hgRw
      have ho9 := own3 (a := .slice A' n c') (a' := .slice X' m' k') (a'' := .int .i64 sh) HOw.out HRx.out
      rw [List.take_of_length_le (by rw [HLd.out]; exact Nat.le_refl _)] at ho9
      have q0 := hb9.cell 0
      have q1 := hb9.cell 1
      have q2 := hb9.cell 2
      simp at q0 q1 q2
      refine bodyPost_ret (v := .tuple #[bv A' n c' X' m' k' sh, .int .i64 0]) (by simp [results, Tryz.results15, go_sem, q0, q1, q2]; try rfl) rfl ?_
      refine .inr ⟨by rw [HLd.out]; exact HPu.out, A', n, c', X', m', k', by rw [HSh.out], ho9, hm9⟩

end Go.Proofs.YtnlbhaajpkpemaaGreatDoor

/- Running plans again, and in two steps, in plain Lean. -/
namespace Go.Proofs.YtnlbhaajpkpemaaGreatDoor
open Go.ChangeShapes Go.WideShapes Go.ChangeAt Go.RowKit Go.PlainAid
set_option linter.unusedVariables false
set_option maxRecDepth 100000

theorem take_ne (es : List En) (j : Nat) (h : j < es.length) : es.take (j + 1) = es.take j ++ [ne es j] := by
  rw [List.take_succ_eq_append_getElem h, ne_eq es j h]
theorem puc_inv {b : Bok} (hb : BOk b) {es : List En} (h : puc b es es.length = 0) (j : Nat) (hj : j ≤ es.length) : OInv b (madeb b (es.take j)) (es.take j) := by
  induction j with
  | zero => rw [List.take_zero]; exact OInv.start hb
  | succ j ih =>
    have hc := puc_at h (show j < es.length by omega)
    rw [madeb_take b es j (by omega), take_ne es j (by omega), stepb_yes hc]
    exact (ih (by omega)).step hc
theorem puc_all {b : Bok} (hb : BOk b) {es : List En} (h : puc b es es.length = 0) : OInv b (madeb b es) es := by
  have := puc_inv hb h es.length (Nat.le_refl _)
  rwa [List.take_length] at this
theorem way_all {b x y : Bok} {d : List En} (h : OInv b x d) (hw : Way b x y) (es : List En) (hs : ∀ e ∈ es, e ∈ d) (j : Nat) (hj : j ≤ es.length) :
    puc y es j = 0 ∧ Way b x (madeb y (es.take j)) ∧ (∀ a ∈ y.en, a ∈ (madeb y (es.take j)).en) ∧ ∀ i, i < j → ne es i ∈ (madeb y (es.take j)).en := by
  induction j with
  | zero => rw [List.take_zero]; exact ⟨rfl, hw, fun _ h => h, fun i hi => absurd hi (Nat.not_lt_zero _)⟩
  | succ j ih =>
    obtain ⟨h1, h2, h3, h4⟩ := ih (by omega)
    obtain ⟨s1, s2, s3, s4⟩ := Way.step h h2 (hs (ne es j) (ne_mem.2 ⟨j, by omega, rfl⟩))
    rw [madeb_take y es j (by omega), stepb_yes s1]
    refine ⟨puc_ok h1 s1, s2, fun a ha => s3 a (h3 a ha), fun i hi => ?_⟩
    by_cases e : i = j
    · subst e; exact s4
    · exact s3 _ (h4 i (by omega))
theorem way_done {b x y : Bok} {d : List En} (h : OInv b x d) (hw : Way b x y) : puc y d d.length = 0 ∧ madeb y d = x := by
  obtain ⟨h1, h2, _, h4⟩ := way_all h hw d (fun _ h => h) d.length (Nat.le_refl _)
  rw [List.take_length] at h2 h4
  refine ⟨h1, h2.done h fun e he => ?_⟩
  obtain ⟨i, hi, rfl⟩ := ne_mem.1 he
  exact h4 i hi
theorem runc_zero {b : Bok} {ps : List Pln} {day : Int} (h : runc b ps day = 0) : bookc b = 0 ∧ plc ps = 0 ∧ puc b (dueP ps day) (dueP ps day).length = 0 := by
  unfold runc at h
  split at h
  · exact absurd h (by assumption)
  rename_i h1
  split at h
  · exact absurd h (by assumption)
  rename_i h2
  exact ⟨by simpa using h1, by simpa using h2, h⟩
theorem runc_of {b : Bok} {ps : List Pln} {day : Int} (h1 : BOk b) (h2 : plc ps = 0) (h3 : puc b (dueP ps day) (dueP ps day).length = 0) : runc b ps day = 0 := by
  unfold runc
  rw [if_neg (by simp [(bookc_iff b).2 h1]), if_neg (by simp [h2]), h3]
/-- job.Run, whether it is refused or not -/
def RunAny (w : World) (r : Int) (b : Bok) (e : Ending) (w' : World) : Prop := (r ≠ 0 ∧ RunNo w r e w') ∨ (r = 0 ∧ PostYes w b e w')
theorem run_any (A : Option Addr) (n c : Nat) (X : Option Addr) (m k : Nat) (b : Bok) (L : Option Addr) (p q : Nat) (ps : List Pln) (day : Int) (w : World) (hb : Bq w A n c X m k b) (hr : Ps w L ps) (hn : ps.length = p) (hcap : p ≤ q) (hml : q ≤ maxLen) (ht : Tab w) (d0 : 0 ≤ day) (d9 : day ≤ 292193) :
    Calls Tryz.prog 15 #[bv A n c X m k b.shut, .slice L p q, .int .i64 day] w (RunAny w (runc b ps day) (madeb b (dueP ps day))) := by
  by_cases h1 : bookc b = 0
  · by_cases h2 : plc ps = 0
    · have e : runc b ps day = puc b (dueP ps day) (dueP ps day).length := by unfold runc; rw [if_neg (by simp [h1]), if_neg (by simp [h2])]
      rw [e]
      exact run_go A n c X m k b L p q ps day w hb hr hn hcap hml ht d0 d9 h1 h2
    · have e : runc b ps day = plc ps := by unfold runc; rw [if_neg (by simp [h1]), if_pos h2]
      rw [e]
      exact (run_bad2 A n c X m k b L p q ps day w hb hr hn hcap hml ht d0 d9 h1 h2).mono fun _ _ h => .inl ⟨h2, h⟩
  · have e : runc b ps day = bookc b := by unfold runc; rw [if_pos h1]
    rw [e]
    exact (run_bad1 A n c X m k b L p q ps day w hb hr hn hcap hml ht d0 d9 h1).mono fun _ _ h => .inl ⟨h1, h⟩
theorem run_yes (A : Option Addr) (n c : Nat) (X : Option Addr) (m k : Nat) (b : Bok) (L : Option Addr) (p q : Nat) (ps : List Pln) (day : Int) (w : World) (hb : Bq w A n c X m k b) (hr : Ps w L ps) (hn : ps.length = p) (hcap : p ≤ q) (hml : q ≤ maxLen) (ht : Tab w) (d0 : 0 ≤ day) (d9 : day ≤ 292193) (hc : runc b ps day = 0) :
    Calls Tryz.prog 15 #[bv A n c X m k b.shut, .slice L p q, .int .i64 day] w (PostYes w (madeb b (dueP ps day))) := by
  refine (run_any A n c X m k b L p q ps day w hb hr hn hcap hml ht d0 d9).mono fun e w' h => ?_
  rcases h with ⟨h, _⟩ | ⟨_, h⟩
  · exact absurd hc h
  · exact h
theorem run_no (A : Option Addr) (n c : Nat) (X : Option Addr) (m k : Nat) (b : Bok) (L : Option Addr) (p q : Nat) (ps : List Pln) (day : Int) (w : World) (hb : Bq w A n c X m k b) (hr : Ps w L ps) (hn : ps.length = p) (hcap : p ≤ q) (hml : q ≤ maxLen) (ht : Tab w) (d0 : 0 ≤ day) (d9 : day ≤ 292193) (hc : runc b ps day ≠ 0) :
    Calls Tryz.prog 15 #[bv A n c X m k b.shut, .slice L p q, .int .i64 day] w (RunNo w (runc b ps day)) := by
  refine (run_any A n c X m k b L p q ps day w hb hr hn hcap hml ht d0 d9).mono fun e w' h => ?_
  rcases h with ⟨_, h⟩ | ⟨h, _⟩
  · exact h
  · exact absurd h hc

end Go.Proofs.YtnlbhaajpkpemaaGreatDoor
