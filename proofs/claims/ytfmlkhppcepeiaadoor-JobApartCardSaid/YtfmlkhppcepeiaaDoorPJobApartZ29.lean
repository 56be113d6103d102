/- append of a row of one's own to a row of one's own. -/
import Derived.Test.YtfmlkhppcepeiaaDoorPJobApartZ1
import Derived.Test.YtfmlkhppcepeiaaDoorPJobApartZ2
import Derived.Test.YtfmlkhppcepeiaaDoorPJobApartZ3
import Derived.Test.YtfmlkhppcepeiaaDoorPJobApartZ4
import Derived.Test.YtfmlkhppcepeiaaDoorPJobApartZ5
import Derived.Test.YtfmlkhppcepeiaaDoorPJobApartZ6
import Derived.Test.YtfmlkhppcepeiaaDoorPJobApartZ7
import Derived.Test.YtfmlkhppcepeiaaDoorPJobApartZ8
import Derived.Test.YtfmlkhppcepeiaaDoorPJobApartZ9
import Derived.Test.YtfmlkhppcepeiaaDoorPJobApartZ10
import Derived.Test.YtfmlkhppcepeiaaDoorPJobApartZ11
import Derived.Test.YtfmlkhppcepeiaaDoorPJobApartZ12
import Derived.Test.YtfmlkhppcepeiaaDoorPJobApartZ13
import Derived.Test.YtfmlkhppcepeiaaDoorPJobApartZ14
import Derived.Test.YtfmlkhppcepeiaaDoorPJobApartZ15
import Derived.Test.YtfmlkhppcepeiaaDoorPJobApartZ16
import Derived.Test.YtfmlkhppcepeiaaDoorPJobApartZ17
import Derived.Test.YtfmlkhppcepeiaaDoorPJobApartZ18
import Derived.Test.YtfmlkhppcepeiaaDoorPJobApartZ19
import Derived.Test.YtfmlkhppcepeiaaDoorPJobApartZ20
import Derived.Test.YtfmlkhppcepeiaaDoorPJobApartZ21
import Derived.Test.YtfmlkhppcepeiaaDoorPJobApartZ22
import Derived.Test.YtfmlkhppcepeiaaDoorPJobApartZ23
import Derived.Test.YtfmlkhppcepeiaaDoorPJobApartZ24
import Derived.Test.YtfmlkhppcepeiaaDoorPJobApartZ25
import Derived.Test.YtfmlkhppcepeiaaDoorPJobApartZ26
import Derived.Test.YtfmlkhppcepeiaaDoorPJobApartZ27
import Derived.Test.YtfmlkhppcepeiaaDoorPJobApartZ28
import Derived.Test.YtfmlkhppcepeiaaDoorRows
import Derived.BigQuiet
import Derived.BigRegion
import Derived.Carry
import Derived.DataElems
import Derived.Deep.DeepCutAuto
import Derived.Deep.LoopGhost
import Derived.Deep.OwnRows
import Derived.Deep.QuietTactic
import Derived.Deep.RegionHeld3
import Derived.Deep.RegionLaw
import Derived.Deep.RegionWith
import Derived.Deep.SlicePairs
import Derived.Deep.Slices
import Derived.Deep.Strs
import Derived.Handy
import Derived.IntWalk
import Derived.Laws.AppendOwn
import Derived.Laws.BytesArg
import Derived.Laws.CopyOwn
import Derived.Laws.CopyRow
import Derived.Laws.Cover1
import Derived.Laws.Externs
import Derived.Laws.NewBlocks
import Derived.Laws.OwnMore
import Derived.Laws.StandIn
import Derived.Lib.AppendZerosOnto
import Derived.Lib.Bytealg
import Derived.Lib.Hide
import Derived.Lib.LaidTab
import Derived.Lib.Overlaps
import Derived.Lib.SliceRun
import Derived.Lib.Walk
import Derived.Maps.Own
import Derived.Maps.OwnSet
import Derived.Maps.Views
import Derived.OpenShut
import Derived.Outline
import Derived.OwnWalk
import Derived.PlainAid
import Derived.ProofKit
import Derived.RegionTactic
import Derived.Shelf.Abstract
import Derived.Shelf.RegionOpenPlain
import Derived.Sort.Walk0
import Derived.StringKeys
import Derived.WalkKit
import Derived.WalkSpells
namespace Go.Proofs.YtfmlkhppcepeiaaDoor
open Go.ChangeShapes Go.WideShapes Go.ChangeAt Go.RowKit Go.PlainAid
set_option linter.unusedVariables false

theorem wpList_append_row {P : Program} {w : World} {ops : Array Oper} {rest : List Oper} {o : Oper} {a : Act} {Q : Exit → Act → World → Prop} (hgd : o.guard = none) (s x : Operand) (t : TypeId)
    (ho : o.op = .call { callee := .builtin .append, args := #[s, x], argTypes := #[t, t] })
    (base : Nat) (e : TypeId) (i : TypeInfo) (z : Value) (size bytes : Nat) (ht : P.underlying t = some (.slice e)) (hi : P.info? e = some i) (hz : i.zero = some z)
    (hsize : i.size = size) (hby : i.bytes = bytes) (hzs : z.cells.size = size) (hsz : 0 < size)
    (v : Value) (n : Nat) (xs : List Value) (hs : a.eval s = v) (hown : w.ownsRow base e size v n xs)
    (base2 : Nat) (v2 : Value) (m : Nat) (news : List Value) (hx : a.eval x = v2) (hown2 : w.ownsRow base2 e size v2 m news) (h1 : ∀ u ∈ news, u.oneCell' = true)
    (h63 : n + m ≤ maxLen) (hbytes : (n + m) * bytes ≤ 140737488355328) (hbase : base ≤ w.heap.size)
    (h : ∀ v' w', w'.ownsRow base e size v' (n + m) (xs ++ news) → w.grownBy w' v.ownBlock → wpList P ops Q rest (a.put o.dst v') w') : wpList P ops Q (o :: rest) a w := by
  have hl := hown2.1
  rcases hown2.2 with ⟨rfl, rfl⟩ | ⟨g, cap, cur, rfl, hg, hh, h2, h3, h4, h5⟩
  · have hnil : news = [] := List.eq_nil_of_length_eq_zero (by rw [hl, Nat.zero_mul])
    subst hnil
    have hr := run_append_owned_none (P := P) (w := w) base t o.type e i size ht hi v n xs hown
    refine wpList_plain hgd fun _ hK => ?_
    unfold Oper.wp execOp
    simp only [ho, resolve, invoke, builtin, Sem.run_bind, Sem.run_pure, Result.andThen_ok, List.map_toArray, List.map_cons, List.map_nil, hs, hx, hr]
    exact hK _ _ (h v w (by rw [List.append_nil]; exact hown) ⟨rfl, rfl, rfl, Nat.le_refl _, fun _ _ _ => rfl⟩)
  · refine wpList_append_own w hgd s x t ho base e i z size bytes ht hi hz hsize hby hzs hsz v n xs hs hown ⟨g, 0, none⟩ m cap news hx hl ?_ h1 h63 hbytes hbase fun v' w' h2 h3 _ => h v' w' h2 h3
    intro j u hu
    have hj : j < m * size := by rw [← hl]; exact (List.getElem?_eq_some_iff.1 hu).1
    rw [adds, Nat.zero_add, World.ownsRow.cellAt hown2 j hj]
    exact hu
theorem qe_app (qs rs : List Ev) (i : Nat) (h : i < qs.length) : qe (qs ++ rs) i = qe qs i := by
  unfold qe; rw [List.getD_eq_getElem?_getD, List.getD_eq_getElem?_getD, List.getElem?_append_left h]
theorem qe_app2 (qs rs : List Ev) (i : Nat) (h : qs.length ≤ i) : qe (qs ++ rs) i = qe rs (i - qs.length) := by
  unfold qe; rw [List.getD_eq_getElem?_getD, List.getD_eq_getElem?_getD, List.getElem?_append_right h]
theorem ne_app (qs rs : List En) (i : Nat) (h : i < qs.length) : ne (qs ++ rs) i = ne qs i := by
  unfold ne; rw [List.getD_eq_getElem?_getD, List.getD_eq_getElem?_getD, List.getElem?_append_left h]
theorem ne_app2 (qs rs : List En) (i : Nat) (h : qs.length ≤ i) : ne (qs ++ rs) i = ne rs (i - qs.length) := by
  unfold ne; rw [List.getD_eq_getElem?_getD, List.getD_eq_getElem?_getD, List.getElem?_append_right h]
theorem flat_app {α : Type} (f : α → List Value) (xs ys : List α) : flat f (xs ++ ys) = flat f xs ++ flat f ys := by
  unfold flat; simp
theorem OwnEs.app {w3 w4 : World} {B B2 : Nat} {v v2 v' : Value} {n m : Nat} {qs qs2 : List Ev} {es es2 : List En} (h : OwnEs w3 B v n qs es) (h2 : OwnEs w3 B2 v2 m qs2 es2) (hB : B ≤ B2)
    (hr : w4.ownsRow B 31 3 v' (n + m) (flat ec qs ++ flat ec qs2)) (hg : w3.grownBy w4 v.ownBlock) : OwnEs w4 B v' (n + m) (qs ++ qs2) (es ++ es2) := by
  refine ⟨by rw [flat_app]; exact hr, by rw [List.length_append, h.ql, h2.ql], by rw [List.length_append, h.el, h2.el], fun i hi => ?_⟩
  by_cases e : i < n
  · rw [qe_app _ _ _ (by rw [h.ql]; exact e), ne_app _ _ _ (by rw [h.el]; exact e)]
    have h3 := h.ent i e
    exact ⟨h3.key, h3.day, own_grows h3.row h.row hg (by decide), h3.len, h3.ks, h3.str⟩
  · rw [qe_app2 _ _ _ (by rw [h.ql]; omega), ne_app2 _ _ _ (by rw [h.el]; omega), h.ql, h.el]
    have h3 := h2.ent (i - n) (by omega)
    exact ⟨h3.key, h3.day, own_grows (own_base h3.row hB) h.row hg (by decide), h3.len, h3.ks, h3.str⟩
theorem plc_each {ps : List Pln} (h : plc ps = 0) (i : Nat) (hi : i < ps.length) : plc [np ps i] = 0 := by
  apply plc_one
  unfold plc at h
  split at h
  · omega
  · have := plUp_at h hi
    unfold plAt at this
    split at this
    · exact absurd this (by assumption)
    · rename_i h2; simpa using h2
theorem due_each {ps : List Pln} (h : plc ps = 0) (day : Int) (i : Nat) (hi : i < ps.length) : dueP (ps.take (i + 1)) day = dueP (ps.take i) day ++ duev [np ps i] day := by
  rw [duev_ok (plc_each h i hi), dueP_one, dueP_take ps day i hi]

end Go.Proofs.YtfmlkhppcepeiaaDoor

/- The walk of talkeep.JobApart. -/
namespace Go.Proofs.YtfmlkhppcepeiaaDoor.jobApart
open Go.ChangeShapes Go.WideShapes Go.ChangeAt Go.RowKit Go.PlainAid
set_option linter.unusedVariables false

theorem due3 : (duev [plA 0 1 1] 3).length = 1 := by
  have h := plA_ok (kind := 0) (amt := 1) (num := 1) (.inl rfl) (by omega) (by omega) (by omega) (by omega)
  have p0 : partP (plA 0 1 1) 0 = 1 := by decide +kernel
  have e0 : ad (plA 0 1 1).frm ((0 : Nat) : Int) = 3 := ad30
  rw [duev_ok h, dueP_one]
  show (dueK (plA 0 1 1) 3 1).length = _
  simp only [dueK, mkE, e0, p0]
  rfl

set_option maxRecDepth 100000 in
set_option maxHeartbeats 3200000 in
theorem jobApart_walk (w : World) (ht : Tab w) (L : Option Addr) (p q : Nat) (ps : List Pln) (hl : Ps w L ps ∧ ps.length = p ∧ p ≤ q ∧ q ≤ maxLen ∧ (L = none → p = 0)) (v1 : Int) (w1 : (Lit.int .i64 v1).wf = true) :
    Calls Tryd.prog 4 #[.slice L p q, .int .i64 v1] w fun e w' => e = .returned (.bool true) ∧ Below w.heap.size w w' := by
  obtain ⟨hps, hpn, hpq, hqm, -⟩ := hl
  obtain ⟨i0, hi0, hz0, hz1, hz2⟩ := info_parts info_entry
  have t0 := wi_lo v1 292194 (by omega)
  have t1 := wi_hi v1 292194 (by omega)
  have HD1 := Lib.hid (fun w => day_any v1 w)
  generalize wi v1 292194 = t at *
  have HDi := Lib.hid (fun w' (h : Mor w w') => due_any L p q ps t w' (hps.mor h) hpn hpq hqm (ht.mor h) t0 (by omega))
  have HT := Lib.hid ht
  have HPs := Lib.hid hps
  have HN := Lib.hid hpn
  have HLe := Lib.hid (fun (h : plc ps = 0) => show ps.length ≤ 12 ∧ ∀ j, j ≤ ps.length → (dueP (ps.take j) t).length ≤ 480 by
    have h1 := plc_ok h
    refine ⟨h1.1, fun j hj => ?_⟩
    have := dueP_le ps t h1.2.1 j hj
    omega)
  have HEa := Lib.hid (fun (h : plc ps = 0) j (hj : j < ps.length) => And.intro (plc_each h j hj) (due_each h t j hj))
  have HOk := Lib.hid (fun (h : plc ps = 0) => show duev ps t = dueP (ps.take p) t by rw [duev_ok h, List.take_of_length_le (by omega)])
  have HNo := Lib.hid (fun (h : plc ps ≠ 0) => show duev ps t = [] from duev_no h)
  clear hps ht w1
  go_enter Tryd.func4, Tryd.ntmps4
  go_wp2_with fail
  have hB := Bk.new w 24 #[.string kp, .int .i64 0, .int .i64 3, .int .i64 1, .int .i64 1, .string s50, .string s10]
  obtain ⟨bP, hbP⟩ : ∃ g, g = w.heap.size := ⟨_, rfl⟩
  rw [← hbP] at hB ⊢
  have hm0 := (Mor.refl w).alloc (o := .cells #[.string kp, .int .i64 0, .int .i64 3, .int .i64 1, .int .i64 1, .string s50, .string s10] 24)
  refine (due_lit (.inl rfl) (by omega) (by omega) (by omega) (by omega) bP 3 _ hB (HT.out.mor hm0) (by omega) (by omega)).mono ?_
  rw [due3]
  rintro e w3 ⟨X, m, c, qs, rfl, rfl, -, hm⟩
  have HM3 := Lib.hid (hm0.trans' hm)
  clear hB hm0 hm hbP
  go_wp2_with (first | (go_at_call 8; (with_reducible refine (HD1.out _).mono ?_); rintro e w6 ⟨rfl, rfl⟩))
  refine (HDi.out _ HM3.out).mono ?_
  rintro e w5 ⟨X5, m5, k5, qs5, rfl, hl5, ho5, hm⟩
  have HM5 := Lib.hid (HM3.out.trans' hm)
  have HO5 := Lib.hid ho5
  have HL5 := Lib.hid hl5
  clear hm ho5 hl5 HDi HD1
  by_cases hr : plc ps = 0
  · have HLe' := Lib.hid (HLe.out hr)
    have HEa' := Lib.hid (HEa.out hr)
    have HOk' := Lib.hid (HOk.out hr)
    rw [hr]
    clear hr HNo HLe HEa HOk
    go_wp2_with fail
    unfold maxLen at hqm
    go_loopw [10, 43] (fun v i wr => ∃ j : Nat, ∃ Y c, j ≤ p ∧ i = .int .i64 j ∧ v = .slice Y (dueP (ps.take j) t).length c ∧ Hid (Mor w5 wr ∧ ∃ qs, OwnEs wr w5.heap.size (.slice Y (dueP (ps.take j) t).length c) (dueP (ps.take j) t).length qs (dueP (ps.take j) t))) (fun _ i _ => p - (intOf i).toNat)
    case atStart => exact ⟨0, none, 0, Nat.zero_le _, rfl, rfl, Lib.hid ⟨Mor.refl _, [], World.ownsRow_nil _ _ _ _, rfl, rfl, fun i hi => absurd hi (Nat.not_lt_zero _)⟩⟩
    case round =>
      obtain ⟨j, Y, c', hj, rfl, rfl, HJ⟩ := hrel
      obtain ⟨hm, qs', hown⟩ := HJ.out
      by_cases hlt : j < p
      · have hji : (j : Int) < (p : Int) := by omega
        have hj0 : (0 : Int) ≤ (j : Int) := by omega
        have hj1 : (j : Int) + 1 ≤ (q : Int) := by omega
        have hp12 : p ≤ 12 := by have := HLe'.out.1; rw [HN.out] at this; exact this
        have hjl : j < ps.length := by rw [HN.out]; exact hlt
        obtain ⟨hpe, hde⟩ := HEa'.out j hjl
        have hle := HLe'.out.2 (j + 1) (by omega)
        have hpsr := HPs.out.mor (HM5.out.trans' hm)
        obtain ⟨x, hL, -⟩ := hpsr.at_ j hjl
        subst hL
        have hdu := due_any (some (x.add (j * 7))) 1 (q - j) [np ps j] t wr (hpsr.one j hjl) rfl (by omega) (by unfold maxLen; omega) (HT.out.mor (HM5.out.trans' hm)) t0 (by omega)
        rw [hpe] at hdu
        have HDu := Lib.hid hdu
        have HDe := Lib.hid hde
        rw [hde, List.length_append] at hle
        obtain ⟨d1, hd1⟩ : ∃ d, d = dueP (ps.take (j + 1)) t := ⟨_, rfl⟩
        rw [← hd1] at HDe
        have HD1e := Lib.hid hd1
        clear hd1
        generalize dueP (ps.take j) t = d0 at *
        generalize duev [np ps j] t = dj at *
        have HOw := Lib.hid hown
        have HM := Lib.hid hm
        clear hown hm HJ hdu hde hpe hpsr
        go_wp2_with fail
        refine HDu.out.mono ?_
        rintro e w6 ⟨X6, m6, k6, qs6, rfl, hl6, ho6, hm⟩
        have HO6 := Lib.hid ho6
        have HOw6 := Lib.hid (HOw.out.mor hm)
        have HM6 := Lib.hid (HM.out.trans' hm)
        have HB := Lib.hid (HM.out.below.size)
        rw [hl6] at hle
        clear hm ho6 HDu HOw
        have hszw := HM6.out.below.size
        go_wp2_with (at_builtin; refine wpList_append_row rfl _ _ 25 rfl w5.heap.size 31 i0 (.agg #[.string { data := #[] }, .int .i64 0, .slice none 0 0]) 3 48 Tryd.underlying25 hi0 hz0 hz1 hz2 rfl (by decide) _ d0.length (flat ec qs') rfl HOw6.out.row wr.heap.size _ m6 (flat ec qs6) rfl HO6.out.row (ec_one _) (by unfold maxLen; omega) (by omega) hszw ?_)
        intro u7 w7 hown7 hgrow7
        obtain ⟨A7, c7, rfl, _, _, _⟩ := own_shape hown7
        have hm7 : Mor w5 w7 := own_step HOw6.out.row HM6.out hgrow7
        have HE7 := Lib.hid (HOw6.out.app HO6.out HB.out hown7 hgrow7)
        rw [← HDe.out] at HE7
        have hln : d0.length + m6 = d1.length := by rw [HDe.out, List.length_append, hl6]
        rw [hln] at HE7
        rw [hln]
        have HM7 := Lib.hid hm7
        clear hm7 hown7 hgrow7
        go_simp
        go_wp2_with fail
        go_roundw
        case rel => exact ⟨j + 1, A7, c7, by omega, by go_num, by rw [← HD1e.out], Lib.hid ⟨HM7.out, _, by rw [← HD1e.out]; exact HE7.out⟩⟩
        case measure => simp [intOf]; omega
      · obtain rfl : j = p := by omega
        obtain ⟨Y', c7, eY, h1, h2, -, hes⟩ := hown.shape
        injection eY with eY1 _ eY3
        subst eY1 eY3
        have hE5 := HO5.out.shape
        rw [HOk'.out] at hE5
        obtain ⟨X5', k5', e5, h5k, h5m, -, hes5⟩ := hE5
        injection e5 with e51 _ e53
        subst e51 e53
        have HEs5 := Lib.hid (hes5.mor hm)
        have hl5 := HL5.out
        rw [HOk'.out] at hl5
        have HEs := Lib.hid hes
        have HM := Lib.hid hm
        rw [hl5] at h1 ⊢
        have HEq := Lib.hid (equal_en X5 Y m5 k5 c' _ wr HEs5.out HEs.out hl5 (by omega))
        clear hown hes5 hes hm HJ
        go_wp2_with fail
        refine HEq.out.mono ?_
        rintro e w8 ⟨rfl, hm8⟩
        have HM8 := Lib.hid hm8
        clear hm8
        go_wp2_with fail
        go_ret
        exact ⟨rfl, ((HM5.out.trans' HM.out).trans' HM8.out).below⟩
  · have hb : (plc ps != 0) = true := by simpa using hr
    have h0 : m5 = 0 := by rw [← HL5.out, HNo.out hr]; rfl
    subst h0
    go_wp2_with fail
    go_ret
    exact ⟨rfl, HM5.out.below⟩

end Go.Proofs.YtfmlkhppcepeiaaDoor.jobApart
