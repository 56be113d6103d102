/- The walk of job.Due. -/
import Derived.Test.YtfmlkhppcepeiaaDoorPJobGrowsZ1
import Derived.Test.YtfmlkhppcepeiaaDoorPJobGrowsZ2
import Derived.Test.YtfmlkhppcepeiaaDoorPJobGrowsZ3
import Derived.Test.YtfmlkhppcepeiaaDoorPJobGrowsZ4
import Derived.Test.YtfmlkhppcepeiaaDoorPJobGrowsZ5
import Derived.Test.YtfmlkhppcepeiaaDoorPJobGrowsZ6
import Derived.Test.YtfmlkhppcepeiaaDoorPJobGrowsZ7
import Derived.Test.YtfmlkhppcepeiaaDoorPJobGrowsZ8
import Derived.Test.YtfmlkhppcepeiaaDoorPJobGrowsZ9
import Derived.Test.YtfmlkhppcepeiaaDoorPJobGrowsZ10
import Derived.Test.YtfmlkhppcepeiaaDoorPJobGrowsZ11
import Derived.Test.YtfmlkhppcepeiaaDoorPJobGrowsZ12
import Derived.Test.YtfmlkhppcepeiaaDoorPJobGrowsZ13
import Derived.Test.YtfmlkhppcepeiaaDoorPJobGrowsZ14
import Derived.Test.YtfmlkhppcepeiaaDoorPJobGrowsZ15
import Derived.Test.YtfmlkhppcepeiaaDoorPJobGrowsZ16
import Derived.Test.YtfmlkhppcepeiaaDoorPJobGrowsZ17
import Derived.Test.YtfmlkhppcepeiaaDoorPJobGrowsZ18
import Derived.Test.YtfmlkhppcepeiaaDoorPJobGrowsZ19
import Derived.Test.YtfmlkhppcepeiaaDoorPJobGrowsZ20
import Derived.Test.YtfmlkhppcepeiaaDoorPJobGrowsZ21
import Derived.Test.YtfmlkhppcepeiaaDoorPJobGrowsZ22
import Derived.Test.YtfmlkhppcepeiaaDoorPJobGrowsZ23
import Derived.Test.YtfmlkhppcepeiaaDoorPJobGrowsZ24
import Derived.Test.YtfmlkhppcepeiaaDoorPJobGrowsZ25
import Derived.Test.YtfmlkhppcepeiaaDoorPJobGrowsZ26
import Derived.Test.YtfmlkhppcepeiaaDoorPJobGrowsZ27
import Derived.Test.YtfmlkhppcepeiaaDoorRows
import Derived.BigQuiet
import Derived.BigRegion
import Derived.Carry
import Derived.DataElems
import Derived.Deep.DeepCutAuto
import Derived.Deep.LoopGhost
import Derived.Deep.OwnRows
import Derived.Deep.QuietTactic
import Derived.Deep.RegionHeld3
import Derived.Deep.RegionLaw
import Derived.Deep.RegionWith
import Derived.Deep.SlicePairs
import Derived.Deep.Slices
import Derived.Deep.Strs
import Derived.Handy
import Derived.IntWalk
import Derived.Laws.AppendOwn
import Derived.Laws.BytesArg
import Derived.Laws.CopyOwn
import Derived.Laws.CopyRow
import Derived.Laws.Cover1
import Derived.Laws.Externs
import Derived.Laws.NewBlocks
import Derived.Laws.StandIn
import Derived.Lib.AppendZerosOnto
import Derived.Lib.Bytealg
import Derived.Lib.Hide
import Derived.Lib.LaidTab
import Derived.Lib.Overlaps
import Derived.Lib.SliceRun
import Derived.Lib.Walk
import Derived.Maps.Own
import Derived.Maps.OwnSet
import Derived.Maps.Views
import Derived.OpenShut
import Derived.Outline
import Derived.OwnWalk
import Derived.PlainAid
import Derived.ProofKit
import Derived.RegionTactic
import Derived.Shelf.Abstract
import Derived.Shelf.RegionOpenPlain
import Derived.Sort.Walk0
import Derived.StringKeys
import Derived.WalkKit
import Derived.WalkSpells
namespace Go.Proofs.YtfmlkhppcepeiaaDoor
open Go.ChangeShapes Go.WideShapes Go.ChangeAt Go.RowKit Go.PlainAid
set_option linter.unusedVariables false

theorem OwnEs.snoc {w3 w4 : World} {base : Nat} {v v' : Value} {m : Nat} {qs : List Ev} {es : List En} {ky : ByteArray} {dy : Int} {A : Option Addr} {n c : Nat} {ls : List Ln} (h : OwnEs w3 base v m qs es)
    (hr : w4.ownsRow base 31 3 v' (m + 1) (flat ec qs ++ [.string ky, .int .i64 dy, .slice A n c])) (hg : w3.grownBy w4 v.ownBlock)
    (hl : w3.ownsRow base 40 2 (.slice A n c) n (flat pc ls)) (hn : ls.length = n) (hk : ky.size ≤ maxLen) (hs : ∀ i, i < n → (cd ls i).size ≤ maxLen) :
    OwnEs w4 base v' (m + 1) (qs ++ [⟨ky, dy, A, n, c⟩]) (es ++ [⟨ky, dy, ls⟩]) := by
  refine ⟨by rw [flat_snoc]; exact hr, by rw [List.length_append, h.ql]; rfl, by rw [List.length_append, h.el]; rfl, fun i hi => ?_⟩
  by_cases e : i < m
  · rw [qe_old _ _ _ (by rw [h.ql]; exact e), ne_old _ _ _ (by rw [h.el]; exact e)]
    have h2 := h.ent i e
    exact ⟨h2.key, h2.day, own_grows h2.row h.row hg (by decide), h2.len, h2.ks, h2.str⟩
  · have e : i = m := by omega
    subst e
    have h1 : qe (qs ++ [⟨ky, dy, A, n, c⟩]) i = ⟨ky, dy, A, n, c⟩ := by rw [← h.ql]; exact qe_last _ _
    have h2 : ne (es ++ [⟨ky, dy, ls⟩]) i = ⟨ky, dy, ls⟩ := by rw [← h.el]; exact ne_last _ _
    rw [h1, h2]
    exact ⟨rfl, rfl, own_grows hl h.row hg (by decide), hn, hk, hs⟩
theorem dueP_take (ps : List Pln) (day : Int) (j : Nat) (h : j < ps.length) : dueP (ps.take (j + 1)) day = dueP (ps.take j) day ++ dueK (np ps j) day (np ps j).num.toNat := by
  unfold dueP
  rw [List.take_succ_eq_append_getElem h, List.flatMap_append, np_eq ps j h]
  simp [due1]
theorem dueP_le (ps : List Pln) (day : Int) (h : ∀ i, i < ps.length → Pok (np ps i)) (j : Nat) (hj : j ≤ ps.length) : (dueP (ps.take j) day).length ≤ 40 * j := by
  induction j with
  | zero => simp [dueP]
  | succ j ih =>
    rw [dueP_take ps day j (by omega), List.length_append]
    have h1 := ih (by omega)
    have h2 := dueK_le (np ps j) day (np ps j).num.toNat
    have h3 := (h j (by omega)).num9
    omega
/-- a row of lines in a block that was just made -/
theorem own_lit {w : World} {B g : Nat} {xs : List Ln} (hg : B ≤ g) (h : w.heap[g]? = some (.cells (flat pc xs).toArray 40 (0, 0))) (hl : xs.length ≤ 1000) :
    w.ownsRow B 40 2 (.slice (some ⟨g, 0, none⟩) xs.length xs.length) xs.length (flat pc xs) := by
  have e := flat_len pc 2 pc_len xs
  refine ⟨by rw [e], .inr ⟨g, xs.length, (flat pc xs).toArray, rfl, hg, h, Nat.le_refl _, by unfold maxLen; omega, ?_, ?_⟩⟩
  · simp [e]
  · rw [← e]; simp
theorem partP_bd {p : Pln} (h : Pok p) {k : Nat} (hk : (k : Int) < p.num) : -2000000000000000 ≤ partP p k ∧ partP p k ≤ 2000000000000000 := by
  have h1 := h.num0
  have h9 := h.num9
  unfold partP
  split
  · unfold dgP
    have a := dgB_bd p.amt p.num ((k : Int) + 1) h.amt0 h.amt9 h1 h9 (by omega) (by omega)
    have b := dgB_bd p.amt p.num (k : Int) h.amt0 h.amt9 h1 h9 (by omega) (by omega)
    omega
  · unfold stP
    have a := stB_bd p.amt p.num ((k : Int) + 1) h.amt0 h.amt9 h1 (by omega) (by omega)
    have b := stB_bd p.amt p.num (k : Int) h.amt0 h.amt9 h1 (by omega) (by omega)
    omega

set_option maxRecDepth 100000 in
set_option maxHeartbeats 3200000 in
theorem due_ok (A : Option Addr) (n cap : Nat) (ps : List Pln) (day : Int) (w : World) (hr : Ps w A ps) (hn : ps.length = n) (hcap : n ≤ cap) (hml : cap ≤ maxLen) (ht : Tab w) (hc : plc ps = 0) (d0 : 0 ≤ day) (d9 : day ≤ 292193) :
    Calls Tryd.prog 7 #[.slice A n cap, .int .i64 day] w fun e w' => ∃ v qs, e = .returned (.tuple #[v, .int .i64 0]) ∧ OwnEs w' w.heap.size v (dueP ps day).length qs (dueP ps day) ∧ Mor w w' := by
  obtain ⟨i0, hi0, hz0, hz1, hz2⟩ := info_parts info_entry
  obtain ⟨h12, hpk, hds⟩ := plc_ok hc
  have HCk := Lib.hid (fun w' (h : Mor w w') => plc_any A n cap ps w' (hr.mor h) hn hcap hml (ht.mor h))
  have HIs := Lib.hid (fun w => is_any day w)
  rw [hc] at HCk
  rw [decide_eq_true (⟨d0, d9⟩ : 0 ≤ day ∧ day ≤ 292193)] at HIs
  have HR := Lib.hid hr
  have HN := Lib.hid hn
  have HT := Lib.hid ht
  have HPk := Lib.hid hpk
  have HTk := Lib.hid (fun j (hj : j < n) => dueP_take ps day j (by omega))
  have HLe := Lib.hid (fun j (hj : j ≤ n) => dueP_le ps day hpk j (by omega))
  have HAll := Lib.hid (show ps.take n = ps from List.take_of_length_le (by omega))
  have hn12 : n ≤ 12 := by omega
  clear hr ht hds hpk h12 hn
  go_enter Tryd.func7, Tryd.ntmps7
  go_wp2_with (first | (go_at_call 19; (with_reducible refine (HCk.out _ (Mor.refl _)).mono ?_); rintro e w1 ⟨rfl, hm1⟩) | (go_at_call 20; (with_reducible refine (HIs.out _).mono ?_); rintro e w2 ⟨rfl, rfl⟩))
  have HM1 := Lib.hid hm1
  clear hm1 HCk HIs
  go_loopw [7, 24] (fun v i wr => ∃ j : Nat, ∃ X k, j ≤ n ∧ i = .int .i64 j ∧ v = .slice X (dueP (ps.take j) day).length k ∧ Hid (Mor w wr ∧ ∃ qs, OwnEs wr w.heap.size (.slice X (dueP (ps.take j) day).length k) (dueP (ps.take j) day).length qs (dueP (ps.take j) day))) (fun _ i _ => n - (intOf i).toNat)
  case atStart => exact ⟨0, none, 0, Nat.zero_le _, rfl, rfl, Lib.hid ⟨HM1.out, [], World.ownsRow_nil _ _ _ _, rfl, rfl, fun i hi => absurd hi (Nat.not_lt_zero _)⟩⟩
  case round =>
    obtain ⟨j, X, c, hj, rfl, rfl, HJ⟩ := hrel
    obtain ⟨hm, qs, hown⟩ := HJ.out
    by_cases hlt : j < n
    · have hji : (j : Int) < (n : Int) := by omega
      have hj0 : (0 : Int) ≤ (j : Int) := by omega
      obtain ⟨x, hA, hxb, hw, c0, c1, c2, c3, c4, c5, c6⟩ := (HR.out.mor hm).at_ j (by rw [HN.out]; exact hlt)
      subst hA
      have hp := HPk.out j (by rw [HN.out]; exact hlt)
      have HTj := Lib.hid (HTk.out j hlt)
      have hle := HLe.out j hj
      generalize dueP (ps.take j) day = d at *
      generalize np ps j = p at *
      obtain ⟨m, hm0⟩ : ∃ m : Nat, p.num = m := ⟨p.num.toNat, by have := hp.num0; omega⟩
      have hm1 := hp.num0
      have hm9 := hp.num9
      rw [hm0] at hm1 hm9
      have hmn : p.num.toNat = m := by omega
      rw [hmn] at HTj
      have HPa := Lib.hid (fun w => jparts_any p w m hm0 hp.amt0 hp.amt9 (by omega) (by omega))
      have HAd := Lib.hid (fun k (hk : k < m) w' (h : Mor w w') => have hk2 := pok_k hp (k := (k : Int)) (by omega) (by omega); add_yes p.frm k w' hp.frm0 hp.frm9 (by omega) (by omega) hk2.1 hk2.2 (HT.out.mor h))
      have HKy := Lib.hid (fun k (hk : k < 40) w' => jkey_any p k w' hk (by have := hp.short; omega))
      have HPb := Lib.hid (fun k (hk : k < m) => partP_bd hp (k := k) (by omega))
      have HSt := Lib.hid (fun k (hk : k ≤ m) (h : k < m → day < ad p.frm k) => dueK_stop hp (day := day) hk (by omega) h)
      have HSu := Lib.hid (fun k => show dueK p day (k + 1) = dueK p day k ++ if ad p.frm k ≤ day ∧ partP p k ≠ 0 then [mkE p k] else [] from rfl)
      have HDl := Lib.hid (fun k => dueK_le p day k)
      have HPw := Lib.hid hw
      have HM := Lib.hid hm
      have HOw := Lib.hid hown
      have HPok := Lib.hid hp
      clear hw hm hown HJ hp hmn
      obtain ⟨key, kind, frm, amt, num, deb, cre⟩ := p
      simp only at c0 c1 c2 c3 c4 c5 c6 hm0
      subst hm0
      go_wp2_with (go_at_call 21; (with_reducible refine (HPa.out _).mono ?_); rintro e w2 ⟨b, rfl, hb, hm2⟩)
      obtain ⟨bP, hbP⟩ : ∃ g, g = wr.heap.size := ⟨_, rfl⟩
      have hP2 := (Bk.new wr 24 #[.string key, .int .i64 kind, .int .i64 frm, .int .i64 amt, .int .i64 m, .string deb, .string cre]).mor hm2
      rw [← hbP] at hP2 ⊢
      have HI := Lib.hid (And.intro ((HM.out.alloc).trans' hm2) (And.intro hP2 (And.intro hb (HOw.out.mor ((Mor.refl _).alloc.trans' hm2)))))
      clear hm2 hb hP2 hbP HM HOw HPa c0 c1 c2 c3 c4 c5 c6 hxb
      go_loopw [7, 31] (fun v i w3 => ∃ k : Nat, ∃ Y c', k ≤ m ∧ i = .int .i64 k ∧ v = .slice Y (d ++ dueK ⟨key, kind, frm, amt, m, deb, cre⟩ day k).length c' ∧ Hid (Mor w w3 ∧ Bk w3 bP 24 #[.string key, .int .i64 kind, .int .i64 frm, .int .i64 amt, .int .i64 m, .string deb, .string cre] ∧ Bk w3 b 3 (fc (partP ⟨key, kind, frm, amt, m, deb, cre⟩) m m) ∧ ∃ qs, OwnEs w3 w.heap.size (.slice Y (d ++ dueK ⟨key, kind, frm, amt, m, deb, cre⟩ day k).length c') (d ++ dueK ⟨key, kind, frm, amt, m, deb, cre⟩ day k).length qs (d ++ dueK ⟨key, kind, frm, amt, m, deb, cre⟩ day k))) (fun _ i _ => m - (intOf i).toNat)
      case atStart => exact ⟨0, X, c, Nat.zero_le _, rfl, by show _ = Value.slice X (d ++ []).length c; rw [List.append_nil], Lib.hid ⟨HI.out.1, HI.out.2.1, HI.out.2.2.1, qs, by show OwnEs _ _ (.slice X (d ++ []).length c) (d ++ []).length qs (d ++ []); rw [List.append_nil]; exact HI.out.2.2.2⟩⟩
      case round =>
        obtain ⟨k, Y, c', hk, rfl, rfl, HJ⟩ := hrel
        obtain ⟨hm3, hP3, hb3, qs3, hown3⟩ := HJ.out
        have hdl := HDl.out k
        have hSk := HSu.out k
        have hlen40 : (d ++ dueK ⟨key, kind, frm, amt, m, deb, cre⟩ day k).length ≤ 520 := by rw [List.length_append]; omega
        by_cases hltk : k < m
        · have hki : (k : Int) < (m : Int) := by omega
          have hk0 : (0 : Int) ≤ (k : Int) := by omega
          have p0 := hP3.cell 0
          have p1 := hP3.cell 1
          have p2 := hP3.cell 2
          have p3 := hP3.cell 3
          have p4 := hP3.cell 4
          have p5 := hP3.cell 5
          have p6 := hP3.cell 6
          have pl := hP3.lt
          have n1 := hb3.cell k
          have nl := hb3.lt
          rw [fc_get _ _ _ _ hltk, if_pos hltk] at n1
          simp at p0 p1 p2 p3 p4 p5 p6
          have HAk := Lib.hid (HAd.out k hltk)
          have HKk := Lib.hid (fun w' => show Calls Tryd.prog 23 #[.agg #[.string key, .int .i64 kind, .int .i64 frm, .int .i64 amt, .int .i64 m, .string deb, .string cre], .int .i64 k] w' fun e w'' => e = .returned (.string (pk key k)) ∧ Mor w' w'' from HKy.out k (by omega) w')
          have ⟨hb1, hb2⟩ := HPb.out k hltk
          have HStop := Lib.hid (HSt.out k (by omega))
          have HE := Lib.hid (show mkE ⟨key, kind, frm, amt, m, deb, cre⟩ k = ⟨pk key k, ad frm k, [(deb, partP ⟨key, kind, frm, amt, m, deb, cre⟩ k), (cre, - partP ⟨key, kind, frm, amt, m, deb, cre⟩ k)]⟩ from rfl)
          rw [HE.out] at hSk
          generalize partP ⟨key, kind, frm, amt, m, deb, cre⟩ k = t at *
          generalize ad frm k = aw at *
          have HSk := Lib.hid hSk
          clear hSk HAd HKy HPb HSt HSu HDl HE
          have HS1 := Lib.hid (show d ++ dueK ⟨key, kind, frm, amt, m, deb, cre⟩ day (k + 1) = (d ++ dueK ⟨key, kind, frm, amt, m, deb, cre⟩ day k) ++ (if aw ≤ day ∧ t ≠ 0 then [(⟨pk key k, aw, [(deb, t), (cre, -t)]⟩ : En)] else []) by rw [HSk.out, List.append_assoc])
          have HS2 := Lib.hid (fun h : day < aw => show dueP (ps.take (j + 1)) day = d ++ dueK ⟨key, kind, frm, amt, m, deb, cre⟩ day k by rw [HTj.out, HStop.out (fun _ => h)])
          have HAdd := Lib.hid (HAk.out wr hm3)
          have HM3 := Lib.hid hm3
          have HP3 := Lib.hid hP3
          have HB3 := Lib.hid hb3
          have HO3 := Lib.hid hown3
          clear HSk HStop hm3 hP3 hb3 hown3 HJ HAk hdl
          generalize hde : d ++ dueK ⟨key, kind, frm, amt, m, deb, cre⟩ day k = e0 at *
          clear hde
          by_cases hbk : day < aw
          · have HE := Lib.hid (HS2.out hbk)
            clear HS1 HS2 HKk
            go_wp2_with (go_at_call 22; (with_reducible refine HAdd.out.mono ?_); rintro e w6 ⟨rfl, hm6⟩; have HM6 := Lib.hid hm6; clear hm6)
            go_roundw
            case rel => exact ⟨j + 1, Y, c', by omega, by go_num, by rw [HE.out], Lib.hid ⟨HM3.out.trans' HM6.out, qs3, by rw [HE.out]; exact HO3.out.mor HM6.out⟩⟩
            case measure => simp [intOf]; omega
          · by_cases ht0 : t = 0
            · have HE := Lib.hid (show d ++ dueK ⟨key, kind, frm, amt, m, deb, cre⟩ day (k + 1) = e0 by rw [HS1.out, if_neg (by simp [ht0]), List.append_nil])
              subst ht0
              clear HS1 HS2 HKk
              go_wp2_with (go_at_call 22; (with_reducible refine HAdd.out.mono ?_); rintro e w6 ⟨rfl, hm6⟩; have HM6 := Lib.hid hm6; clear hm6)
              go_roundw
              case rel => exact ⟨k + 1, Y, c', by omega, by go_num, by rw [HE.out], Lib.hid ⟨HM3.out.trans' HM6.out, HP3.out.mor HM6.out, HB3.out.mor HM6.out, qs3, by rw [HE.out]; exact HO3.out.mor HM6.out⟩⟩
              case measure => simp [intOf]; omega
            · have HE := Lib.hid (show d ++ dueK ⟨key, kind, frm, amt, m, deb, cre⟩ day (k + 1) = e0 ++ [(⟨pk key k, aw, [(deb, t), (cre, -t)]⟩ : En)] by rw [HS1.out, if_pos ⟨by omega, ht0⟩])
              have htb : (t != 0) = true := by simpa using ht0
              clear HS1 HS2 ht0
              go_wp2_with (go_at_call 22; (with_reducible refine HAdd.out.mono ?_); rintro e w6 ⟨rfl, hm6⟩; have HM6 := Lib.hid hm6; have hP6 := HP3.out.mor hm6; have p0 := hP6.cell 0; have p1 := hP6.cell 1; have p2 := hP6.cell 2; have p3 := hP6.cell 3; have p4 := hP6.cell 4; have p5 := hP6.cell 5; have p6 := hP6.cell 6; have pl := hP6.lt; simp at p0 p1 p2 p3 p4 p5 p6; clear hP6 hm6)
              have HM36 := Lib.hid (HM3.out.trans' HM6.out)
              have HP6 := Lib.hid (HP3.out.mor HM6.out)
              have HB6 := Lib.hid (HB3.out.mor HM6.out)
              have HO6 := Lib.hid (HO3.out.mor HM6.out)
              have HKz := Lib.hid (show (pk key k).size ≤ maxLen by
                have := HPok.out.short
                unfold pk
                rw [ByteArray.size_append, ByteArray.size_append]
                show key.size + 1 + 2 ≤ maxLen
                unfold maxLen; simp only at this; omega)
              have HLz := Lib.hid (fun i (hi : i < 2) => show (cd [(deb, t), (cre, -t)] i).size ≤ maxLen by
                match i, hi with
                | 0, _ => exact HPw.out.d
                | 1, _ => exact HPw.out.c)
              clear HM3 HP3 HB3 HO3 HAdd
              generalize pk key k = pkk at *
              have hneg : IntKind.i64.wrap (-t) = -t := by rw [IntKind.wrap_i64]; omega
              have HKp := Lib.hid (fun w' (h : Bk w' bP 24 #[.string key, .int .i64 kind, .int .i64 frm, .int .i64 amt, .int .i64 m, .string deb, .string cre]) => show (fun w' => w'.cell? ⟨bP, 0, none⟩ = some (.string key) ∧ w'.cell? ⟨bP, 1, none⟩ = some (.int .i64 kind) ∧ w'.cell? ⟨bP, 2, none⟩ = some (.int .i64 frm) ∧ w'.cell? ⟨bP, 3, none⟩ = some (.int .i64 amt) ∧ w'.cell? ⟨bP, 4, none⟩ = some (.int .i64 m) ∧ w'.cell? ⟨bP, 5, none⟩ = some (.string deb) ∧ w'.cell? ⟨bP, 6, none⟩ = some (.string cre)) w' from ⟨by simpa using h.cell 0, by simpa using h.cell 1, by simpa using h.cell 2, by simpa using h.cell 3, by simpa using h.cell 4, by simpa using h.cell 5, by simpa using h.cell 6⟩)
              clear p0 p1 p2 p3 p4 p5 p6 pl n1 nl
              go_region_held3 (fun w' => w'.cell? ⟨bP, 0, none⟩ = some (.string key) ∧ w'.cell? ⟨bP, 1, none⟩ = some (.int .i64 kind) ∧ w'.cell? ⟨bP, 2, none⟩ = some (.int .i64 frm) ∧ w'.cell? ⟨bP, 3, none⟩ = some (.int .i64 amt) ∧ w'.cell? ⟨bP, 4, none⟩ = some (.int .i64 m) ∧ w'.cell? ⟨bP, 5, none⟩ = some (.string deb) ∧ w'.cell? ⟨bP, 6, none⟩ = some (.string cre))
                ((refine HKp.out _ ?_; repeat (first | exact HX7.out.2.1 | exact HP6.out | apply Bk.alloc | apply Bk.more | apply Bk.drewN | apply Bk.drew)))
                (first
                | (go_at_call 23; (with_reducible refine (HKk.out _).mono ?_); rintro e w7 ⟨rfl, bs, dk, rfl⟩)
                | (refine step_append_own rfl (.tmp 48) (.tmp 64) 25 rfl _ 31 i0 (.agg #[.string { data := #[] }, .int .i64 0, .slice none 0 0]) 3 48 Tryd.underlying25 hi0 hz0 hz1 hz2 rfl (by decide) _ e0.length (flat ec qs3) (by simp [Act.eval]) (own_mor (HO6.out.row) (by repeat (first | exact Mor.refl _ | apply Mor.alloc | apply Mor.more | apply Mor.drewN | apply Mor.drew))) ⟨w6.heap.size + bs.length + 1, 0, none⟩ 1 1 [.string pkk, .int .i64 aw, .slice (some ⟨w6.heap.size + bs.length, 0, none⟩) 2 2] (by simp [Act.eval]) rfl (lit_at _ _ _ rfl (by simp [go_sem])) (by intro u hu; simp at hu; rcases hu with rfl | rfl | rfl <;> rfl) (by unfold maxLen; omega) (by omega) (by have := HM36.out.below.size; simp [go_sem]; omega) ?_; intro u7 w7 hown7 hgrow7; obtain ⟨A7, c7, rfl, _, _, _⟩ := own_shape hown7; have hP7 := Bk.growT (Bk.mor (HP6.out) (by repeat (first | exact Mor.refl _ | apply Mor.alloc | apply Mor.more | apply Mor.drewN | apply Mor.drew))) (own_mor (HO6.out.row) (by repeat (first | exact Mor.refl _ | apply Mor.alloc | apply Mor.more | apply Mor.drewN | apply Mor.drew))) hgrow7 (by decide); have hB7 := Bk.growT (Bk.mor (HB6.out) (by repeat (first | exact Mor.refl _ | apply Mor.alloc | apply Mor.more | apply Mor.drewN | apply Mor.drew))) (own_mor (HO6.out.row) (by repeat (first | exact Mor.refl _ | apply Mor.alloc | apply Mor.more | apply Mor.drewN | apply Mor.drew))) hgrow7 (by decide); have hm7 : Mor w w7 := own_step (own_mor (HO6.out.row) (by repeat (first | exact Mor.refl _ | apply Mor.alloc | apply Mor.more | apply Mor.drewN | apply Mor.drew))) (Mor.trans' (HM36.out) (by repeat (first | exact Mor.refl _ | apply Mor.alloc | apply Mor.more | apply Mor.drewN | apply Mor.drew))) hgrow7; have hE7 := OwnEs.snoc (OwnEs.mor (HO6.out) (by repeat (first | exact Mor.refl _ | apply Mor.alloc | apply Mor.more | apply Mor.drewN | apply Mor.drew))) hown7 hgrow7 (ls := [(deb, t), (cre, -t)]) (own_lit (g := w6.heap.size + bs.length) (xs := [(deb, t), (cre, -t)]) (by have := HM36.out.below.size; omega) (by repeat (first | exact newAt (by simp [go_sem, size_more]) | apply Bk.alloc | apply Bk.drewN | apply Bk.drew | apply Bk.more)) (by simp)) rfl HKz.out HLz.out; have HX7 := Lib.hid (And.intro hm7 (And.intro hP7 (And.intro hB7 hE7))); clear hm7 hP7 hB7 hE7 hown7 hgrow7)
                | (refine step_append_own rfl (.tmp 48) (.tmp 64) 25 rfl _ 31 i0 (.agg #[.string { data := #[] }, .int .i64 0, .slice none 0 0]) 3 48 Tryd.underlying25 hi0 hz0 hz1 hz2 rfl (by decide) _ e0.length (flat ec qs3) (by simp [Act.eval]) (own_mor (HO6.out.row) (by repeat (first | exact Mor.refl _ | apply Mor.alloc | apply Mor.more | apply Mor.drewN | apply Mor.drew))) ⟨w6.heap.size + 1 + bs.length, 0, none⟩ 1 1 [.string pkk, .int .i64 aw, .slice (some ⟨w6.heap.size, 0, none⟩) 2 2] (by simp [Act.eval]) rfl (lit_at _ _ _ rfl (by simp [go_sem])) (by intro u hu; simp at hu; rcases hu with rfl | rfl | rfl <;> rfl) (by unfold maxLen; omega) (by omega) (by have := HM36.out.below.size; simp [go_sem]; omega) ?_; intro u7 w7 hown7 hgrow7; obtain ⟨A7, c7, rfl, _, _, _⟩ := own_shape hown7; have hP7 := Bk.growT (Bk.mor (HP6.out) (by repeat (first | exact Mor.refl _ | apply Mor.alloc | apply Mor.more | apply Mor.drewN | apply Mor.drew))) (own_mor (HO6.out.row) (by repeat (first | exact Mor.refl _ | apply Mor.alloc | apply Mor.more | apply Mor.drewN | apply Mor.drew))) hgrow7 (by decide); have hB7 := Bk.growT (Bk.mor (HB6.out) (by repeat (first | exact Mor.refl _ | apply Mor.alloc | apply Mor.more | apply Mor.drewN | apply Mor.drew))) (own_mor (HO6.out.row) (by repeat (first | exact Mor.refl _ | apply Mor.alloc | apply Mor.more | apply Mor.drewN | apply Mor.drew))) hgrow7 (by decide); have hm7 : Mor w w7 := own_step (own_mor (HO6.out.row) (by repeat (first | exact Mor.refl _ | apply Mor.alloc | apply Mor.more | apply Mor.drewN | apply Mor.drew))) (Mor.trans' (HM36.out) (by repeat (first | exact Mor.refl _ | apply Mor.alloc | apply Mor.more | apply Mor.drewN | apply Mor.drew))) hgrow7; have hE7 := OwnEs.snoc (OwnEs.mor (HO6.out) (by repeat (first | exact Mor.refl _ | apply Mor.alloc | apply Mor.more | apply Mor.drewN | apply Mor.drew))) hown7 hgrow7 (ls := [(deb, t), (cre, -t)]) (own_lit (g := w6.heap.size) (xs := [(deb, t), (cre, -t)]) (by have := HM36.out.below.size; omega) (by repeat (first | exact newAt (by simp [go_sem]) | apply Bk.alloc | apply Bk.drewN | apply Bk.drew | apply Bk.more)) (by simp)) rfl HKz.out HLz.out; have HX7 := Lib.hid (And.intro hm7 (And.intro hP7 (And.intro hB7 hE7))); clear hm7 hP7 hB7 hE7 hown7 hgrow7))
              all_goals go_wp2_with fail
              all_goals go_roundw
              all_goals first
                | (exact ⟨k + 1, A7, c7, by omega, by go_num, by rw [HE.out, List.length_append]; rfl, Lib.hid ⟨HX7.out.1, HX7.out.2.1, HX7.out.2.2.1, _, by rw [HE.out, List.length_append]; exact HX7.out.2.2.2⟩⟩)
                | (simp [intOf]; omega)
        · obtain rfl : k = m := by omega
          have HTE := Lib.hid HTj.out
          go_wp2_with fail
          go_roundw
          case rel => exact ⟨j + 1, Y, c', by omega, by go_num, by rw [HTE.out], Lib.hid ⟨hm3, qs3, by rw [HTE.out]; exact hown3⟩⟩
          case measure => simp [intOf]; omega
    · obtain rfl : j = n := by omega
      rw [HAll.out] at hown ⊢
      have HM := Lib.hid hm
      have HOw := Lib.hid hown
      clear hm hown HJ
      go_wp2_with fail
      go_returns
      exact ⟨_, qs, rfl, HOw.out, HM.out⟩

end Go.Proofs.YtfmlkhppcepeiaaDoor

/- job.Due, whether the plans are good or not; plans that a law lays itself; ContainsFunc with R.Same. -/
namespace Go.Proofs.YtfmlkhppcepeiaaDoor
open Go.ChangeShapes Go.WideShapes Go.ChangeAt Go.RowKit Go.PlainAid
set_option linter.unusedVariables false

set_option maxRecDepth 100000 in
set_option maxHeartbeats 1600000 in
theorem due_no (A : Option Addr) (n cap : Nat) (ps : List Pln) (day : Int) (w : World) (hr : Ps w A ps) (hn : ps.length = n) (hcap : n ≤ cap) (hml : cap ≤ maxLen) (ht : Tab w) (hc : plc ps ≠ 0) :
    Calls Tryd.prog 7 #[.slice A n cap, .int .i64 day] w fun e w' => e = .returned (.tuple #[.slice none 0 0, .int .i64 (plc ps)]) ∧ Mor w w' := by
  have HCk := Lib.hid (fun w' (h : Mor w w') => plc_any A n cap ps w' (hr.mor h) hn hcap hml (ht.mor h))
  generalize plc ps = r at *
  have hb : (r != 0) = true := by simpa using hc
  clear hr ht hn
  go_enter Tryd.func7, Tryd.ntmps7
  go_wp2_with (first | (go_at_call 19; (with_reducible refine (HCk.out _ (Mor.refl _)).mono ?_); rintro e w1 ⟨rfl, hm1⟩))
  have HM := Lib.hid hm1
  clear hm1
  go_returns
  exact ⟨rfl, HM.out⟩
/-- what is due, or nothing -/
noncomputable def duev (ps : List Pln) (day : Int) : List En := if plc ps = 0 then dueP ps day else []
theorem duev_ok {ps : List Pln} {day : Int} (h : plc ps = 0) : duev ps day = dueP ps day := by unfold duev; rw [if_pos h]
theorem duev_no {ps : List Pln} {day : Int} (h : plc ps ≠ 0) : duev ps day = [] := by unfold duev; rw [if_neg h]
theorem due_any (A : Option Addr) (n cap : Nat) (ps : List Pln) (day : Int) (w : World) (hr : Ps w A ps) (hn : ps.length = n) (hcap : n ≤ cap) (hml : cap ≤ maxLen) (ht : Tab w) (d0 : 0 ≤ day) (d9 : day ≤ 292193) :
    Calls Tryd.prog 7 #[.slice A n cap, .int .i64 day] w fun e w' => ∃ X m k qs, e = .returned (.tuple #[.slice X m k, .int .i64 (plc ps)]) ∧ (duev ps day).length = m ∧ OwnEs w' w.heap.size (.slice X m k) m qs (duev ps day) ∧ Mor w w' := by
  by_cases h : plc ps = 0
  · refine (due_ok A n cap ps day w hr hn hcap hml ht h d0 d9).mono ?_
    rintro e w' ⟨v, qs, rfl, ho, hm⟩
    rw [duev_ok h, h]
    obtain ⟨X, k, rfl, _⟩ := ho.shape
    exact ⟨X, _, k, qs, rfl, rfl, ho, hm⟩
  · refine (due_no A n cap ps day w hr hn hcap hml ht h).mono ?_
    rintro e w' ⟨rfl, hm⟩
    rw [duev_no h]
    exact ⟨none, 0, 0, [], rfl, rfl, ⟨World.ownsRow_nil _ _ _ _, rfl, rfl, fun i hi => absurd hi (Nat.not_lt_zero _)⟩, hm⟩

/-- the cells of an entry of one's own -/
theorem OwnEs.cells {w : World} {base : Nat} {v : Value} {m : Nat} {qs : List Ev} {es : List En} (h : OwnEs w base v m qs es) (i : Nat) (hi : i < m) :
    ∃ g k A n c, v = .slice (some ⟨g, 0, none⟩) m k ∧ m ≤ k ∧ k ≤ maxLen ∧ g < w.heap.size ∧ w.cell? ⟨g, i * 3, none⟩ = some (.string (ne es i).key) ∧ w.cell? ⟨g, i * 3 + 1, none⟩ = some (.int .i64 (ne es i).day) ∧ w.cell? ⟨g, i * 3 + 2, none⟩ = some (.slice A n c) ∧ Lq w A n c (ne es i).ls ∧ (ne es i).key.size ≤ maxLen := by
  obtain ⟨X, k, rfl, h1, h2, h3, h4⟩ := h.shape
  obtain ⟨hlen, hh | ⟨g, cap, cur, e, _⟩⟩ := h.row
  · obtain ⟨_, e⟩ := hh; omega
  · injection e with e1 e2 e3
    subst e1 e3
    obtain ⟨x, A, n, c, hX, xl, hk, c0, c1, c2, hq⟩ := h4.at_ i (by rw [h.el]; exact hi)
    injection hX with hX
    subst hX
    rw [adds] at c0 c1 c2
    exact ⟨g, k, A, n, c, rfl, h1, h2, xl, by simpa using c0, by simpa using c1, by simpa using c2, hq, hk⟩

/-- a plan that a law lays -/
theorem Ps.lit {w : World} {g : Nat} {key : ByteArray} {kind frm amt num : Int} {deb cre : ByteArray} (h : Bk w g 24 #[.string key, .int .i64 kind, .int .i64 frm, .int .i64 amt, .int .i64 num, .string deb, .string cre]) (hw : Pwf ⟨key, kind, frm, amt, num, deb, cre⟩) :
    Ps w (some ⟨g, 0, none⟩) [⟨key, kind, frm, amt, num, deb, cre⟩] := by
  refine .inr ⟨_, rfl, h.lt, fun i hi => ?_⟩
  obtain rfl : i = 0 := by simpa using hi
  have e : (⟨g, 0, none⟩ : Addr).add (0 * 7) = ⟨g, 0, none⟩ := by rw [adds]
  rw [e, show np [(⟨key, kind, frm, amt, num, deb, cre⟩ : Pln)] 0 = ⟨key, kind, frm, amt, num, deb, cre⟩ from rfl]
  exact ⟨hw, by simpa using h.cell 0, by simpa using h.cell 1, by simpa using h.cell 2, by simpa using h.cell 3, by simpa using h.cell 4, by simpa using h.cell 5, by simpa using h.cell 6⟩
theorem plc_one {p : Pln} (h : onec p = 0) : plc [p] = 0 := by
  unfold plc
  rw [if_neg (by simp)]
  show (if plUp [p] 0 ≠ 0 then plUp [p] 0 else plAt [p] 0) = 0
  rw [if_neg (by simp [plUp])]
  unfold plAt
  rw [show np [p] 0 = p from rfl, if_neg (by simp [h])]
  rfl
theorem d3 : IsD 3 0 4 := isD_num 0 4 (by decide) (by decide) (by decide) (by decide) (by decide)
theorem ad30 : ad 3 0 = 3 := ad_zero (by omega) (by omega)
theorem ad31 : ad 3 1 = 34 := by rw [ad_eq]; unfold cut; rw [d3.dk, d3.dm]; decide
abbrev kp : ByteArray := { data := #[112] }
def plA (kind amt num : Int) : Pln := ⟨kp, kind, 3, amt, num, s50, s10⟩
theorem plA_ok {kind amt num : Int} (h1 : kind = 0 ∨ kind = 1) (h2 : 0 ≤ amt) (h3 : amt ≤ 1000000000000) (h4 : 1 ≤ num) (h5 : num ≤ 40) : plc [plA kind amt num] = 0 := by
  apply plc_one
  have a1 : ¬ (keyB kp = false ∨ 9 < kp.size ∨ dashB kp = true) := by decide +kernel
  have a2 : ¬ (codeB s50 = false ∨ codeB s10 = false ∨ s50 = s10) := by decide +kernel
  have a3 : ¬ 9600 ≤ dk 3 + (num - 1) := by rw [d3.dk]; omega
  unfold onec
  rw [if_neg (show ¬ (keyB (plA kind amt num).key = false ∨ 9 < (plA kind amt num).key.size ∨ dashB (plA kind amt num).key = true) from a1), if_neg (by simp only [plA]; omega),
    if_neg (show ¬ (codeB (plA kind amt num).deb = false ∨ codeB (plA kind amt num).cre = false ∨ (plA kind amt num).deb = (plA kind amt num).cre) from a2), if_neg (show ¬ 9600 ≤ dk (plA kind amt num).frm + ((plA kind amt num).num - 1) from a3)]
theorem plA_wf {kind amt num : Int} (h1 : kind = 0 ∨ kind = 1) (h2 : 0 ≤ amt) (h3 : amt ≤ 1000000000000) (h4 : 1 ≤ num) (h5 : num ≤ 40) : Pwf (plA kind amt num) :=
  ⟨by show 1 ≤ maxLen; unfold maxLen; omega, by show 2 ≤ maxLen; unfold maxLen; omega, by show 2 ≤ maxLen; unfold maxLen; omega, by unfold wi64 plA; simp only; omega, by unfold wi64 plA; simp only; omega, by unfold wi64 plA; simp only; omega, by unfold wi64 plA; simp only; omega⟩
theorem due_lit {kind amt num : Int} (h1 : kind = 0 ∨ kind = 1) (h2 : 0 ≤ amt) (h3 : amt ≤ 1000000000000) (h4 : 1 ≤ num) (h5 : num ≤ 40) (g : Nat) (day : Int) (w : World) (h : Bk w g 24 #[.string kp, .int .i64 kind, .int .i64 3, .int .i64 amt, .int .i64 num, .string s50, .string s10]) (ht : Tab w) (d0 : 0 ≤ day) (d9 : day ≤ 292193) :
    Calls Tryd.prog 7 #[.slice (some ⟨g, 0, none⟩) 1 1, .int .i64 day] w fun e w' => ∃ X m k qs, e = .returned (.tuple #[.slice X m k, .int .i64 0]) ∧ (duev [plA kind amt num] day).length = m ∧ OwnEs w' w.heap.size (.slice X m k) m qs (duev [plA kind amt num] day) ∧ Mor w w' := by
  have hd := due_any (some ⟨g, 0, none⟩) 1 1 [plA kind amt num] day w (Ps.lit h (plA_wf h1 h2 h3 h4 h5)) rfl (Nat.le_refl _) (by unfold maxLen; omega) ht d0 d9
  rw [plA_ok h1 h2 h3 h4 h5] at hd
  exact hd
theorem dueP_one (p : Pln) (day : Int) : dueP [p] day = dueK p day p.num.toNat := by unfold dueP; simp [due1]

/-- a closure that says p of the entries es, whose lines it may read -/
def SaysQ (w : World) (g : Nat) (cb : Array Value) (es : List En) (p : Nat → Bool) : Prop :=
  ∀ (i : Nat) (w1 : World) (A : Option Addr) (n c : Nat), i < es.length → Mor w w1 → Lq w1 A n c (ne es i).ls → Calls Tryd.prog g (#[.agg #[.string (ne es i).key, .int .i64 (ne es i).day, .slice A n c]] ++ cb) w1 fun e w' => e = .returned (.bool (p i)) ∧ Mor w1 w'

set_option maxHeartbeats 1600000 in
theorem index_eq (g : Nat) (cb : Array Value) (X : Option Addr) (n cap : Nat) (es : List En) (p : Nat → Bool) (w : World) (eg : ∀ args w, (callFunc g args).run Tryd.prog w = .ok (.enter g args) w) (hr : Es w X es) (hn : n ≤ es.length) (hl : n ≤ 1000) (hf : SaysQ w g cb es p) :
    Calls Tryd.prog 25 #[.slice X n cap, .func (.func g) #[] cb] w fun e w' => e = .returned (.int .i64 (fidx p 0 n)) ∧ Mor w w' := by
  have HF := Lib.hid hf
  have HR := Lib.hid hr
  have HN := Lib.hid hn
  clear hf hr hn
  go_enter Tryd.func25, Tryd.ntmps25
  go_wp2
  go_loopw [8] (fun i wr => ∃ k : Nat, k ≤ n ∧ i = .int .i64 k ∧ Hid (∀ j, j < k → p j = false) ∧ Hid (Mor w wr)) (fun i _ => n - (intOf i).toNat)
  case atStart => exact ⟨0, Nat.zero_le _, rfl, Lib.hid (fun j hj => absurd hj (by omega)), Lib.hid (Mor.refl _)⟩
  case round =>
    obtain ⟨k, hk, rfl, HA, HM⟩ := hrel
    by_cases hlt : k < n
    · have hki : (k : Int) < (n : Int) := by omega
      have hk0 : (0 : Int) ≤ (k : Int) := by omega
      obtain ⟨x, A, m, c, hX, hxb, hks, c1, c2, c3, hq⟩ := (HR.out.mor HM.out).at_ k (by have := HN.out; omega)
      subst hX
      have hc := HF.out k wr A m c (by have := HN.out; omega) HM.out hq
      clear hks hq
      generalize (ne es k).key = s at *
      generalize (ne es k).day = a at *
      cases hp : p k <;> rw [hp] at hc
      · have HG := Lib.hid (show ∀ j, j < k + 1 → p j = false from fun j hj => by
          by_cases e : j = k
          · subst e; exact hp
          · exact HA.out j (by omega))
        clear hp
        go_wp2_with (go_at_fn g; refine hc.mono ?_; rintro e w' ⟨rfl, hmw⟩)
        have HM' := Lib.hid (Mor.trans' HM.out hmw)
        clear hmw
        go_roundw
        case rel => exact ⟨k + 1, by omega, by go_num, HG, HM'⟩
        case measure => simp [intOf]; omega
      · have HP := Lib.hid (fidx_at HA.out hlt hp)
        clear hp
        go_wp2_with (go_at_fn g; refine hc.mono ?_; rintro e w' ⟨rfl, hmw⟩)
        have HM' := Lib.hid (Mor.trans' HM.out hmw)
        clear hmw
        go_ret
        exact ⟨by rw [HP.out] <;> rfl, HM'.out⟩
    · obtain rfl : k = n := by omega
      have HP := Lib.hid (fidx_no HA.out)
      go_wp2
      go_ret
      exact ⟨by rw [HP.out] <;> rfl, HM.out⟩

set_option maxHeartbeats 800000 in
theorem contains_eq (g : Nat) (cb : Array Value) (X : Option Addr) (n cap : Nat) (es : List En) (p : Nat → Bool) (w : World) (eg : ∀ args w, (callFunc g args).run Tryd.prog w = .ok (.enter g args) w) (hr : Es w X es) (hn : n ≤ es.length) (hl : n ≤ 1000) (hf : SaysQ w g cb es p) :
    Calls Tryd.prog 9 #[.slice X n cap, .func (.func g) #[] cb] w fun e w' => e = .returned (.bool ((List.range n).any p)) ∧ Mor w w' := by
  have HI := Lib.hid (index_eq g cb X n cap es p w eg hr hn hl hf)
  have HA := Lib.hid (fidx_any p n)
  clear hr hn hf
  generalize (List.range n).any p = r at *
  generalize fidx p 0 n = f at *
  by_cases h : 0 ≤ f
  · rw [decide_eq_true h] at HA
    go_enter Tryd.func9, Tryd.ntmps9
    go_wp2_with fail
    refine HI.out.mono ?_
    rintro e w1 ⟨rfl, hm⟩
    have HM := Lib.hid hm
    clear hm
    go_wp2_with fail
    go_ret
    exact ⟨by rw [← HA.out] <;> simp, HM.out⟩
  · rw [decide_eq_false h] at HA
    go_enter Tryd.func9, Tryd.ntmps9
    go_wp2_with fail
    refine HI.out.mono ?_
    rintro e w1 ⟨rfl, hm⟩
    have HM := Lib.hid hm
    clear hm
    go_wp2_with fail
    go_ret
    exact ⟨by rw [← HA.out] <;> simp [h], HM.out⟩

/-- R.Same with an entry that stands in a variable -/
theorem ne_mem {es : List En} {x : En} : x ∈ es ↔ ∃ i, i < es.length ∧ ne es i = x := by
  constructor
  · intro h
    obtain ⟨i, hi, e⟩ := List.mem_iff_getElem.1 h
    exact ⟨i, hi, by rw [ne_eq _ _ hi]; exact e⟩
  · rintro ⟨i, hi, rfl⟩
    rw [ne_eq _ _ hi]
    exact List.getElem_mem hi
theorem any_same {es : List En} {x : En} (h : x ∈ es) : (List.range es.length).any (fun j => decide (ne es j = x)) = true := by
  obtain ⟨i, hi, e⟩ := ne_mem.1 h
  exact List.any_eq_true.2 ⟨i, List.mem_range.2 hi, by simp [e]⟩

end Go.Proofs.YtfmlkhppcepeiaaDoor

/- The walk of talkeep.JobGrows. -/
namespace Go.Proofs.YtfmlkhppcepeiaaDoor.jobGrows
open Go.ChangeShapes Go.WideShapes Go.ChangeAt Go.RowKit Go.PlainAid
set_option linter.unusedVariables false

set_option maxHeartbeats 800000 in
theorem clo_same (g : Nat) (x y : En) (A A' : Option Addr) (n c n' c' : Nat) (w : World) (hx : Lq w A n c x.ls) (hy : Lq w A' n' c' y.ls) (hc : C3 w g (.string y.key) (.int .i64 y.day) (.slice A' n' c')) :
    Calls Tryd.prog 10 #[.agg #[.string x.key, .int .i64 x.day, .slice A n c], .pointer (some ⟨g, 0, none⟩)] w fun e w' => e = .returned (.bool (decide (x = y))) ∧ Mor w w' := by
  have HS := Lib.hid (fun w' (h : Mor w w') => rsame_any x y A A' n c n' c' w' (hx.mor h) (hy.mor h))
  generalize decide (x = y) = r at *
  obtain ⟨c0, c1, c2, cl⟩ := hc
  go_enter Tryd.func10, Tryd.ntmps10
  go_wp2_with (go_at_call 11; (with_reducible refine (HS.out _ (by repeat (first | exact Mor.refl _ | apply Mor.alloc | apply Mor.more | apply Mor.drewN | apply Mor.drew))).mono ?_); rintro e w2 ⟨rfl, hm⟩)
  go_ret
  exact ⟨rfl, by repeat (first | exact hm | exact Mor.refl _ | apply Mor.trans' _ hm | apply Mor.alloc | apply Mor.more | apply Mor.drewN | apply Mor.drew)⟩

theorem due2 : plc [plA 0 10 2] = 0 ∧ duev [plA 0 10 2] 2 = [] := by
  have h := plA_ok (kind := 0) (amt := 10) (num := 2) (.inl rfl) (by omega) (by omega) (by omega) (by omega)
  refine ⟨h, ?_⟩
  rw [duev_ok h, dueP_one]
  show dueK (plA 0 10 2) 2 2 = []
  simp only [dueK, plA]
  simp [ad30, ad31]
theorem due34 : duev [plA 0 10 2] 34 = [⟨pk kp 0, 3, [(s50, 5), (s10, -5)]⟩, ⟨pk kp 1, 34, [(s50, 5), (s10, -5)]⟩] := by
  have h := plA_ok (kind := 0) (amt := 10) (num := 2) (.inl rfl) (by omega) (by omega) (by omega) (by omega)
  have p0 : partP (plA 0 10 2) 0 = 5 := by decide +kernel
  have p1 : partP (plA 0 10 2) 1 = 5 := by decide +kernel
  rw [duev_ok h, dueP_one]
  show dueK (plA 0 10 2) 34 2 = _
  have e0 : ad (plA 0 10 2).frm ((0 : Nat) : Int) = 3 := ad30
  have e1 : ad (plA 0 10 2).frm ((1 : Nat) : Int) = 34 := ad31
  simp only [dueK, mkE, e0, e1, p0, p1]
  rfl


set_option maxRecDepth 100000 in
set_option maxHeartbeats 3200000 in
theorem jobGrows_walk (w : World) (ht : Tab w) (L : Option Addr) (p q : Nat) (ps : List Pln) (hl : Ps w L ps ∧ ps.length = p ∧ p ≤ q ∧ q ≤ maxLen ∧ (L = none → p = 0)) (v1 : Int) (w1 : (Lit.int .i64 v1).wf = true) (v2 : Int) (w2 : (Lit.int .i64 v2).wf = true) :
    Calls Tryd.prog 3 #[.slice L p q, .int .i64 v1, .int .i64 v2] w fun e w' => e = .returned (.bool true) ∧ Below w.heap.size w w' := by
  obtain ⟨hps, hpn, hpq, hqm, -⟩ := hl
  have t0 := wi_lo v1 292194 (by omega)
  have t1 := wi_hi v1 292194 (by omega)
  have u0 := wi_lo v2 292194 (by omega)
  have u1 := wi_hi v2 292194 (by omega)
  have HD1 := Lib.hid (fun w => day_any v1 w)
  have HD2 := Lib.hid (fun w => day_any v2 w)
  generalize wi v1 292194 = t at *
  generalize wi v2 292194 = u at *
  obtain ⟨i, hi⟩ : ∃ i, min t u = i := ⟨_, rfl⟩
  obtain ⟨k, hk⟩ : ∃ q, max t u = q := ⟨_, rfl⟩
  have i0 : 0 ≤ i ∧ i ≤ 292193 ∧ 0 ≤ k ∧ k ≤ 292193 ∧ i ≤ k := by rw [← hi, ← hk]; omega
  obtain ⟨i0, i1, k0, k1, hik⟩ := i0
  have HGr := Lib.hid (dueP_grows hik ps)
  have HDi := Lib.hid (fun w' (h : Mor w w') => due_any L p q ps i w' (hps.mor h) hpn hpq hqm (ht.mor h) i0 i1)
  have HDk := Lib.hid (fun w' (h : Mor w w') => due_any L p q ps k w' (hps.mor h) hpn hpq hqm (ht.mor h) k0 k1)
  have HOk := Lib.hid (fun (h : plc ps = 0) => And.intro (duev_ok (day := i) h) (And.intro (duev_ok (day := k) h) (plc_ok h)))
  have HLe := Lib.hid (fun day (h : plc ps = 0) => show (dueP ps day).length ≤ 480 by
    have h1 := plc_ok h
    have := dueP_le ps day h1.2.1 ps.length (Nat.le_refl _)
    rw [List.take_of_length_le (Nat.le_refl _)] at this
    omega)
  have HT := Lib.hid ht
  generalize plc ps = r at *
  generalize duev ps i = di at *
  generalize duev ps k = dk' at *
  clear hps hpn hpq ht w1 w2
  go_enter Tryd.func3, Tryd.ntmps3
  go_wp2_with fail
  have hB := Bk.new w 24 #[.string kp, .int .i64 0, .int .i64 3, .int .i64 10, .int .i64 2, .string s50, .string s10]
  obtain ⟨bP, hbP⟩ : ∃ g, g = w.heap.size := ⟨_, rfl⟩
  rw [← hbP] at hB ⊢
  have hm0 := (Mor.refl w).alloc (o := .cells #[.string kp, .int .i64 0, .int .i64 3, .int .i64 10, .int .i64 2, .string s50, .string s10] 24)
  refine (due_lit (.inl rfl) (by omega) (by omega) (by omega) (by omega) bP 2 _ hB (HT.out.mor hm0) (by omega) (by omega)).mono ?_
  rw [due2.2]
  rintro e w3 ⟨X, m, c, qs, rfl, rfl, -, hm⟩
  have HB3 := Lib.hid (hB.mor hm)
  have HM3 := Lib.hid (hm0.trans' hm)
  clear hB hm0 hm hbP
  go_wp2_with fail
  refine (due_lit (.inl rfl) (by omega) (by omega) (by omega) (by omega) bP 34 _ HB3.out (HT.out.mor HM3.out) (by omega) (by omega)).mono ?_
  rw [due34]
  rintro e w4 ⟨X4, m4, c4, qs4, rfl, rfl, ho, hm⟩
  obtain ⟨g4, k4, A4, n4, c4', e4, -, -, gl, d0, d1, -⟩ := ho.cells 1 (by decide)
  injection e4 with e41 e42 e43
  subst e41
  simp at d0 d1
  change w4.cell? ⟨g4, 3, none⟩ = some (.string (pk kp 1)) at d0
  change w4.cell? ⟨g4, 4, none⟩ = some (.int .i64 34) at d1
  rw [show pk kp 1 = { data := #[112, 45, 48, 49] } by decide +kernel] at d0
  have HM4 := Lib.hid (HM3.out.trans' hm)
  clear hm ho e42 e43
  go_wp2_with fail
  clear d0 d1 gl HB3
  go_wp2_with (first | (go_at_call 8; (with_reducible refine (HD1.out _).mono ?_); rintro e w6 ⟨rfl, rfl⟩) | (go_at_call 8; (with_reducible refine (HD2.out _).mono ?_); rintro e w6 ⟨rfl, rfl⟩))
  clear hi hk t0 t1 u0 u1 HD1 HD2
  refine (HDi.out _ HM4.out).mono ?_
  rintro e w5 ⟨X5, m5, k5, qs5, rfl, hl5, ho5, hm⟩
  have HM5 := Lib.hid (HM4.out.trans' hm)
  have HO5 := Lib.hid (And.intro ho5 hl5)
  clear hm ho5 hl5
  go_wp2_with fail
  refine (HDk.out _ HM5.out).mono ?_
  rintro e w6 ⟨X6, m6, k6, qs6, rfl, hl6, ho6, hm⟩
  have HM6 := Lib.hid (HM5.out.trans' hm)
  have HO5' := Lib.hid (And.intro (HO5.out.1.mor hm) HO5.out.2)
  have HO6 := Lib.hid (And.intro ho6 hl6)
  clear hm ho6 hl6 HO5 HDi HDk
  by_cases hr : r = 0
  · have HDv := Lib.hid (HOk.out hr)
    have HLi := Lib.hid (HLe.out i hr)
    have HLk := Lib.hid (HLe.out k hr)
    subst hr
    have hm56 : m5 ≤ m6 := by rw [← HO5'.out.2, ← HO6.out.2, HDv.out.1, HDv.out.2.1]; exact HGr.out.1
    have hm6 : m6 ≤ 480 := by rw [← HO6.out.2, HDv.out.2.1]; exact HLk.out
    have hmi : ¬ (m6 : Int) < (m5 : Int) := by omega
    have hmd : ¬ m6 < m5 := by omega
    have HMem := Lib.hid (show ∀ x ∈ di, x ∈ dk' by rw [HDv.out.1, HDv.out.2.1]; exact HGr.out.2)
    obtain ⟨X5', k5', e5, h5k, h5m, -, hes5⟩ := HO5'.out.1.shape
    obtain ⟨X6', k6', e6, h6k, h6m, -, hes6⟩ := HO6.out.1.shape
    injection e5 with e51 _ e53
    injection e6 with e61 _ e63
    subst e51 e53 e61 e63
    unfold maxLen at h5m h6m
    have HE5 := Lib.hid hes5
    have HE6 := Lib.hid hes6
    have HL5 := Lib.hid HO5'.out.2
    have HL6 := Lib.hid HO6.out.2
    clear hes5 hes6 HO5' HO6 HLi HLk HDv HOk HLe HGr
    go_wp2_with fail
    go_loopw [96] (fun i wr => ∃ j : Nat, j ≤ m5 ∧ i = .int .i64 j ∧ Hid (Mor w6 wr)) (fun i _ => m5 - (intOf i).toNat)
    case atStart => exact ⟨0, Nat.zero_le _, rfl, Lib.hid (Mor.refl _)⟩
    case round =>
      obtain ⟨j, hj, rfl, HR⟩ := hrel
      by_cases hlt : j < m5
      · have hji : (j : Int) < (m5 : Int) := by omega
        have hj0 : (0 : Int) ≤ (j : Int) := by omega
        have hjl : j < di.length := by rw [HL5.out]; exact hlt
        obtain ⟨x, A2, n2, c2', hE, hxb, hks, d0, d1, d2, hlq⟩ := (HE5.out.mor HR.out).at_ j hjl
        subst hE
        have HAny := Lib.hid (any_same (HMem.out (ne di j) (ne_mem.2 ⟨j, hjl, rfl⟩)))
        generalize ne di j = y at *
        have HC := Lib.hid (fun w' (h : Mor wr w') g (hc : C3 w' g (.string y.key) (.int .i64 y.day) (.slice A2 n2 c2')) => contains_eq 10 #[.pointer (some ⟨g, 0, none⟩)] X6 m6 k6 dk' (fun i => decide (ne dk' i = y)) w' (fun _ _ => rfl) (HE6.out.mor (HR.out.trans' h)) (by rw [HL6.out]; exact Nat.le_refl _) (by omega) (fun i w1 A n c hi h1 hq => clo_same g (ne dk' i) y A A2 n c n2 c2' w1 hq (hlq.mor (h.trans' h1)) (hc.mor h1)))
        rw [show (List.range m6).any (fun i => decide (ne dk' i = y)) = true by rw [← HL6.out]; exact HAny.out] at HC
        obtain ⟨ky, dy, ls⟩ := y
        dsimp only at d0 d1 HC
        clear hlq hks
        go_wp2_with fail
        refine (HC.out _ (Mor.refl _).alloc _ (C3.new _ _ _ _ _)).mono ?_
        rintro e w7 ⟨rfl, hm⟩
        have HM7 := Lib.hid ((HR.out.alloc).trans' hm)
        clear hm d0 d1 d2 HC
        go_wp2_with fail
        go_roundw
        case rel => exact ⟨j + 1, by omega, by go_num, HM7⟩
        case measure => simp [intOf]; omega
      · obtain rfl : j = m5 := by omega
        go_wp2_with fail
        go_ret
        exact ⟨rfl, (HM6.out.trans' HR.out).below⟩
  · have hb : (r != 0) = true := by simpa using hr
    go_wp2_with fail
    go_ret
    exact ⟨by simp, HM6.out.below⟩

end Go.Proofs.YtfmlkhppcepeiaaDoor.jobGrows
