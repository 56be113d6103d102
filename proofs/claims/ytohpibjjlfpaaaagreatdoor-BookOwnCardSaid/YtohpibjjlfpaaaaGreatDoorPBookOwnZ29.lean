/- The walk of log.Replay: a log is texts of entries that can be posted one after another, and a part without an end. -/
import Derived.Test.YtohpibjjlfpaaaaGreatDoorPBookOwnZ1
import Derived.Test.YtohpibjjlfpaaaaGreatDoorPBookOwnZ2
import Derived.Test.YtohpibjjlfpaaaaGreatDoorPBookOwnZ3
import Derived.Test.YtohpibjjlfpaaaaGreatDoorPBookOwnZ4
import Derived.Test.YtohpibjjlfpaaaaGreatDoorPBookOwnZ5
import Derived.Test.YtohpibjjlfpaaaaGreatDoorPBookOwnZ6
import Derived.Test.YtohpibjjlfpaaaaGreatDoorPBookOwnZ7
import Derived.Test.YtohpibjjlfpaaaaGreatDoorPBookOwnZ8
import Derived.Test.YtohpibjjlfpaaaaGreatDoorPBookOwnZ9
import Derived.Test.YtohpibjjlfpaaaaGreatDoorPBookOwnZ10
import Derived.Test.YtohpibjjlfpaaaaGreatDoorPBookOwnZ11
import Derived.Test.YtohpibjjlfpaaaaGreatDoorPBookOwnZ12
import Derived.Test.YtohpibjjlfpaaaaGreatDoorPBookOwnZ13
import Derived.Test.YtohpibjjlfpaaaaGreatDoorPBookOwnZ14
import Derived.Test.YtohpibjjlfpaaaaGreatDoorPBookOwnZ15
import Derived.Test.YtohpibjjlfpaaaaGreatDoorPBookOwnZ16
import Derived.Test.YtohpibjjlfpaaaaGreatDoorPBookOwnZ17
import Derived.Test.YtohpibjjlfpaaaaGreatDoorPBookOwnZ18
import Derived.Test.YtohpibjjlfpaaaaGreatDoorPBookOwnZ19
import Derived.Test.YtohpibjjlfpaaaaGreatDoorPBookOwnZ20
import Derived.Test.YtohpibjjlfpaaaaGreatDoorPBookOwnZ21
import Derived.Test.YtohpibjjlfpaaaaGreatDoorPBookOwnZ22
import Derived.Test.YtohpibjjlfpaaaaGreatDoorPBookOwnZ23
import Derived.Test.YtohpibjjlfpaaaaGreatDoorPBookOwnZ24
import Derived.Test.YtohpibjjlfpaaaaGreatDoorPBookOwnZ25
import Derived.Test.YtohpibjjlfpaaaaGreatDoorPBookOwnZ26
import Derived.Test.YtohpibjjlfpaaaaGreatDoorPBookOwnZ27
import Derived.Test.YtohpibjjlfpaaaaGreatDoorPBookOwnZ28
import Derived.Test.YtohpibjjlfpaaaaGreatDoorRows
import Derived.BigQuiet
import Derived.BigRegion
import Derived.Carry
import Derived.DataElems
import Derived.Deep.DeepCutAuto
import Derived.Deep.LoopGhost
import Derived.Deep.QuietTactic
import Derived.Deep.RegionHeld3
import Derived.Deep.RegionLaw
import Derived.Deep.RegionWith
import Derived.Deep.SlicePairs
import Derived.Deep.Slices
import Derived.Deep.Strs
import Derived.Handy
import Derived.IntWalk
import Derived.Laws.AppendOwn
import Derived.Laws.CopyOwn
import Derived.Laws.CopyRow
import Derived.Laws.Cover1
import Derived.Laws.Externs
import Derived.Laws.NewBlocks
import Derived.Lib.AppendZerosOnto
import Derived.Lib.AtoiAll
import Derived.Lib.AtoiTie
import Derived.Lib.Bytealg
import Derived.Lib.CutLaws
import Derived.Lib.Hide
import Derived.Lib.ItoaLen
import Derived.Lib.ItoaNum
import Derived.Lib.LastIndexLaws
import Derived.Lib.Overlaps
import Derived.Lib.SliceRun
import Derived.Lib.SplitLaws
import Derived.Lib.Walk
import Derived.Maps.Own
import Derived.Maps.OwnSet
import Derived.Maps.Views
import Derived.OpenShut
import Derived.Outline
import Derived.OwnWalk
import Derived.PlainAid
import Derived.ProofKit
import Derived.RegionTactic
import Derived.Shelf.Abstract
import Derived.Shelf.LaysC
import Derived.Shelf.LaysM
import Derived.Shelf.RegionOpenPlain
import Derived.Shelf.Small.Strs
import Derived.Shelf.Strconv.Atoi
import Derived.Shelf.Strconv.AtoiAll
import Derived.Shelf.Strconv.AtoiErrFast
import Derived.Shelf.Strconv.AtoiFail
import Derived.Shelf.Strconv.AtoiInnerAll
import Derived.Shelf.Strconv.AtoiLong
import Derived.Shelf.Strconv.Clone
import Derived.Shelf.Strconv.ErrVarAll
import Derived.Shelf.Strconv.Itoa0
import Derived.Shelf.Strconv.Itoa1
import Derived.Shelf.Strconv.Itoa2
import Derived.Shelf.Strconv.Itoa3
import Derived.Shelf.Strconv.Lower
import Derived.Shelf.Strconv.ParseInt10
import Derived.Shelf.Strconv.ParseIntEmpty
import Derived.Shelf.Strconv.ParseUint10
import Derived.Shelf.Strconv.ParseUint10Any
import Derived.Shelf.Strconv.ParseUint10Empty
import Derived.Shelf.Strconv.RangeError
import Derived.Shelf.Strconv.SyntaxError
import Derived.Shelf.Strconv.ToError
import Derived.Shelf.Strconv.ToErrorRange
import Derived.Shelf.Strings.Builder1
import Derived.Shelf.Strings.BuilderF
import Derived.Shelf.Strings.BuilderK
import Derived.Shelf.Strings.Count
import Derived.Shelf.Strings.Cut
import Derived.Shelf.Strings.Explode
import Derived.Shelf.Strings.LastIndex
import Derived.Shelf.Strings.LastIndexAll
import Derived.Shelf.Strings.RuneCount
import Derived.Shelf.Strings.Search1
import Derived.Shelf.Strings.Search2
import Derived.Shelf.Strings.Search3
import Derived.Shelf.Strings.Shaped
import Derived.Shelf.Strings.Split
import Derived.Shelf.Strings.SplitShaped
import Derived.Shelf.Unicode.Decode
import Derived.Shelf.Unicode.DecodeAny
import Derived.Shelf.Unicode.DecodeSlow
import Derived.Shelf.Utf8.RuneCount
import Derived.Sort.Walk0
import Derived.StringKeys
import Derived.WalkKit
import Derived.WalkSpells
namespace Go.Proofs.YtohpibjjlfpaaaaGreatDoor
open Go Go.ChangeShapes Go.WideShapes Go.ChangeAt Go.RowKit Go.PlainAid
set_option linter.unusedVariables false
set_option maxRecDepth 100000

theorem OwnB.low {w : World} {B B' n m : Nat} {vA vX : Value} {b : Bok} (h : OwnB w B vA vX n m b) (hB : B' ≤ B) : OwnB w B' vA vX n m b := by
  obtain ⟨qs, hq⟩ := h.es
  exact ⟨own_base h.ac hB, h.al, h.astr, qs, own_base hq.row hB, hq.ql, hq.el, fun i hi => ⟨(hq.ent i hi).key, (hq.ent i hi).day, own_base (hq.ent i hi).row hB, (hq.ent i hi).len, (hq.ent i hi).ks, (hq.ent i hi).str⟩⟩
/-- what log.Replay hands back -/
def RepPost (w : World) (n : Nat) (b : Bok) (N : Nat) (e : Ending) (w' : World) : Prop :=
  ∃ A c X m k, e = .returned (.tuple #[bv A n c X m k b.shut, .int .i64 N, .int .i64 0]) ∧ OwnB w' w.heap.size (.slice A n c) (.slice X m k) n m b ∧ Mor w w'
/-- entries that can be posted one after another -/
def Posts (b : Bok) (d : List En) : Prop := ∀ i, i < d.length → postc (madeb b (d.take i)) (ne d i) = 0

set_option maxHeartbeats 3200000 in
theorem replay_ok (A : Option Addr) (n c : Nat) (X : Option Addr) (m k : Nat) (b : Bok) (s : ByteArray) (d : List En) (r : List UInt8) (w : World) (hb : Bq w A n c X m k b) (hc : bookc b = 0) (hs : ub s = texts d ++ r) (hz : s.size ≤ 20000)
    (hr : ∀ x ∈ r, x ≠ 10) (hd : Posts b d) (hdl : d.length ≤ 10000) (ht : Tb w) :
    Calls Tryz.prog 17 #[bv A n c X m k b.shut, .string s] w (RepPost w n (madeb b d) d.length) := by
  have hbo := (bookc_iff b).1 hc
  have HCk := Lib.hid (fun w' (h : Mor w w') => show Calls Tryz.prog 33 #[bv A n c X m k b.shut] w' (fun e w2 => e = .returned (.int .i64 0) ∧ Mor w' w2) from by have := bcheck_any A n c X m k b w' (hb.mor h); rw [hc] at this; exact this)
  have hnl := hb.ac.length
  have hml := hb.length
  have hn24 := acc_len hbo.ac
  have hm60 := hbo.len
  have HCo := Lib.hid (fun w' (h : Mor w w') => show Calls Tryz.prog 45 #[bv A n c X m k b.shut] w' (fun e w2 => ∃ A2 c2 X2 k2, e = .returned (bv A2 n c2 X2 m k2 b.shut) ∧ OwnB w2 w'.heap.size (.slice A2 n c2) (.slice X2 m k2) n m b ∧ Mor w' w2) from
    (copied_any A n c X m k b w' (hb.mor h) (by omega) (by omega) (fun y hy => by have := (linec_ok (entc_ok (hbo.enc y hy)).2.2.2).1; omega)).mono (by
      rintro e w2 ⟨vA, vX, rfl, ho, hm⟩
      obtain ⟨A2, c2, X2, k2, rfl, rfl, _⟩ := ho.bq
      exact ⟨A2, c2, X2, k2, rfl, ho, hm⟩))
  generalize hsh : b.shut = sh at *
  have hzi : decide ((20000 : Int) < (s.size : Int)) = false := decide_eq_false (by omega)
  have HT := Lib.hid (fun w' (h : Mor w w') => ht.mor h)
  have HB := Lib.hid hb
  clear hb ht
  go_enter Tryz.func17, Tryz.ntmps17
  go_wp2_with fail
  have hM0 := ((Mor.refl w).alloc (o := .cells #[.slice A n c, .slice X m k, .int .i64 sh] 25)).alloc (o := .cells #[.slice none 0 0, .slice none 0 0, .int .i64 0] 25)
  have hbP0 := (Bk.new w 25 #[.slice A n c, .slice X m k, .int .i64 sh]).alloc (.cells #[.slice none 0 0, .slice none 0 0, .int .i64 0] 25)
  have hbR0 := Bk.new (w.alloc (.cells #[.slice A n c, .slice X m k, .int .i64 sh] 25)) 25 #[.slice none 0 0, .slice none 0 0, .int .i64 0]
  rw [← szA] at hbR0
  obtain ⟨bP, hgP⟩ : ∃ g, g = w.heap.size := ⟨_, rfl⟩
  rw [← hgP] at hbP0 hbR0 ⊢
  obtain ⟨bR, hgR⟩ : ∃ g, g = bP + 1 := ⟨_, rfl⟩
  rw [← hgR] at hbR0 ⊢
  generalize (w.alloc (.cells #[.slice A n c, .slice X m k, .int .i64 sh] 25)).alloc (.cells #[.slice none 0 0, .slice none 0 0, .int .i64 0] 25) = w0 at *
  have hgRw : w.heap.size ≤ bR := by omega
  have hPR : bP ≠ bR := by omega
  have hRP : bR ≠ bP := by omega
  clear hgP hgR
  refine (HCk.out _ hM0).mono ?_
  rintro e w1 ⟨rfl, hm1⟩
  have hbP := hbP0.mor hm1
  have HR1 := Lib.hid (hbR0.mor hm1)
  have HM1 := Lib.hid (hM0.trans' hm1)
  have HP1 := Lib.hid hbP
  have c0 := hbP.cell 0
  have c1 := hbP.cell 1
  have c2 := hbP.cell 2
  have cl := hbP.lt
  simp at c0 c1 c2
  clear hM0 hbP0 hbR0 hm1 hbP
  go_wp2_with fail
  refine (HCo.out _ HM1.out).mono ?_
  rintro e w2 ⟨A2, c2', X2, k2, rfl, ho2, hm2⟩
  have HO2 := Lib.hid ho2
  have HM2 := Lib.hid (HM1.out.trans' hm2)
  have HR2 := Lib.hid (HR1.out.mor hm2)
  clear ho2 hm2 c0 c1 c2 cl HP1 HR1
  go_wp2_with fail
  have hO3 := Bk.new w2 25 #[.slice A2 n c2', .slice X2 m k2, .int .i64 sh]
  have hm23 := (Mor.refl w2).alloc (o := .cells #[.slice A2 n c2', .slice X2 m k2, .int .i64 sh] 25)
  obtain ⟨bO, hgO⟩ : ∃ g, g = w2.heap.size := ⟨_, rfl⟩
  rw [← hgO] at hO3 ⊢
  have hRO : bR < bO := by rw [hgO]; exact HR2.out.lt
  have hgOw : w.heap.size ≤ bO := by rw [hgO]; exact HM2.out.below.size
  clear hgO
  have hOO3 := (HO2.out.mor hm23).low HM1.out.below.size
  have hR3 := HR2.out.mor hm23
  have hM3 := HM2.out.trans' hm23
  clear HO2 HR2 hm23
  generalize w2.alloc (.cells #[.slice A2 n c2', .slice X2 m k2, .int .i64 sh] 25) = w3 at *
  clear HM2
  have HD := Lib.hid hd
  have HSh := Lib.hid (fun es => (madeb_ac b es).2)
  have HAc := Lib.hid (fun es => (madeb_ac b es).1)
  have HS0 := Lib.hid hsh
  have HRt := Lib.hid hr
  go_loopw [1, 9] (fun v i wr => ∃ (j : Nat) (sj : ByteArray) (A' : Option Addr) (c' : Nat) (X' : Option Addr) (m' k' : Nat), j ≤ d.length ∧ i = .int .i64 j ∧ v = .string sj ∧ sj.size ≤ 20000 ∧ Hid (ub sj = texts (d.drop j) ++ r) ∧ Hid (Bk wr bO 25 #[.slice A' n c', .slice X' m' k', .int .i64 sh] ∧ Bk wr bR 25 #[.slice none 0 0, .slice none 0 0, .int .i64 0] ∧ OwnB wr w.heap.size (.slice A' n c') (.slice X' m' k') n m' (madeb b (d.take j)) ∧ Mor w wr)) (fun _ i _ => d.length - (intOf i).toNat)
  case atStart => exact ⟨0, s, A2, c2', X2, m, k2, Nat.zero_le _, rfl, rfl, hz, Lib.hid (by rw [List.drop_zero]; exact hs), Lib.hid ⟨hO3, hR3, by rw [List.take_zero]; exact hOO3, hM3⟩⟩
  case round =>
    clear hO3 hR3 hOO3 hM3
    obtain ⟨j, sj, A', c', X', m', k', hj, rfl, rfl, hsz, HU, HI⟩ := hrel
    obtain ⟨hO, hR, hOO, hM⟩ := HI.out
    have o0 := hO.cell 0
    have o1 := hO.cell 1
    have o2 := hO.cell 2
    have ol := hO.lt
    simp at o0 o1 o2
    by_cases hlt : j < d.length
    · have hpc := HD.out j hlt
      have hen := (post_pre hpc).2.1
      obtain ⟨ra, rb, rg, rd, re, rf⟩ := rp_step hlt hen HU.out
      have hbq := own_bq hOO
      have hsj := HSh.out (d.take j)
      rw [HS0.out] at hsj
      have haj := hbq.ac.length
      have hks : (ne d j).key.size ≤ maxLen := by
        have h1 := rdE_key sj
        rw [rb] at h1
        have h2 : (rdP sj).size ≤ sj.size := by unfold rdP rdL; simp; omega
        unfold maxLen; omega
      have HTw := Lib.hid (HT.out _ hM)
      have HRd := Lib.hid (fun w' (g : Mor wr w') => show Calls Tryz.prog 53 #[.string sj] w' (fun e w'' => RY w' (ne d j).key (ne d j).day (ne d j).ls ((textT (ne d j)).length : Nat) e w'') from
        (read_any sj w' (by unfold maxLen; omega) (by unfold rdL; simp; omega) (HTw.out.mor g)).mono (by
          rintro e w'' (⟨_, _, _, _, hy⟩ | ⟨hn, _⟩)
          · rw [rb, rg] at hy; exact hy
          · exact absurd ra hn))
      have HTk := Lib.hid (madeb_take b d j hlt)
      have HUn := Lib.hid rd
      generalize hu : (textT (ne d j)).length = u at *
      generalize madeb b (d.take j) = bj at *
      generalize ne d j = y at *
      obtain ⟨ky, dy, ls⟩ := y
      have HPo := Lib.hid (fun A9 m9 c9 w4 (hq : Lq w4 A9 m9 c9 ls) w' (g : Mor wr w') (g4 : Mor w4 w') => show Calls Tryz.prog 12 #[bv A' n c' X' m' k' sh, .agg #[.string ky, .int .i64 dy, .slice A9 m9 c9]] w' (fun e w'' => ∃ A c X m k, e = .returned (.tuple #[bv A n c X m k sh, .int .i64 0]) ∧ OwnB w'' w'.heap.size (.slice A n c) (.slice X m k) n m (stepb bj ⟨ky, dy, ls⟩) ∧ Mor w' w'') by
        have h3 := post_yes A' n c' X' m' k' bj ⟨ky, dy, ls⟩ A9 m9 c9 w' (hbq.mor g) (hq.mor g4) hks hpc
        rw [hsj] at h3
        refine h3.mono fun e w'' h => ?_
        obtain ⟨A9, c9, X9, m9, k9, he, ho, hm9⟩ := postYes_own h (n := n) (by rw [(post_ac _ _).1]; exact haj)
        rw [(post_ac _ _).2, hsj] at he
        exact ⟨A9, c9, X9, m9, k9, he, by rw [stepb_yes hpc]; exact ho, hm9⟩)
      have hne : (sj.toList == []) = false := by
        rw [ByteArray.toList_eq]
        refine beq_eq_false_iff_ne.2 (show ub sj ≠ [] from fun e => ?_)
        have h9 := ub_len sj
        rw [e] at h9
        simp at h9
        omega
      have hu1 : (u : Int) ≤ (sj.size : Int) := by omega
      have hu0 : (0 : Int) ≤ (u : Int) := by omega
      clear ra rb rg rd hen hpc hsj haj hks hu
      go_wp2_with fail
      refine (HRd.out _ (Mor.refl _)).mono ?_
      rintro e w4 ⟨A9, m9, c9, rfl, ⟨hq, -⟩, hm4⟩
      have HO4 := Lib.hid (hO.mor hm4)
      have HR4 := Lib.hid (hR.mor hm4)
      have HM4 := Lib.hid hm4
      have HQ4 := Lib.hid hq
      have hO4 := hO.mor hm4
      clear o0 o1 o2 ol hq HRd
      have o0 := hO4.cell 0
      have o1 := hO4.cell 1
      have o2 := hO4.cell 2
      have f0 := hO4.frozen 0
      have f1 := hO4.frozen 1
      have f2 := hO4.frozen 2
      have ol := hO4.lt
      simp at o0 o1 o2
      clear hO4 hO hR hOO hM hm4
      go_wp2_with fail
      refine (HPo.out A9 m9 c9 w4 HQ4.out _ HM4.out.alloc (Mor.refl _).alloc).mono ?_
      rintro e w6 ⟨A6, c6, X6, m6, k6, rfl, ho6, hm6⟩
      have hm46 := (Mor.refl w4).alloc.trans' hm6
      have hO6 := HO4.out.mor hm46
      have HR6 := Lib.hid (HR4.out.mor hm46)
      have hW6 := HI.out.2.2.2.trans' (HM4.out.trans' hm46)
      have HM6 := Lib.hid hW6
      have HB6 := Lib.hid (show w.heap.size ≤ (w4.alloc (.cells #[.string ky, .int .i64 dy, .slice A9 m9 c9] 28)).heap.size from ((HI.out.2.2.2.trans' HM4.out).alloc (o := .cells #[.string ky, .int .i64 dy, .slice A9 m9 c9] 28)).below.size)
      have HOw := Lib.hid (ho6.low HB6.out)
      have HO6 := Lib.hid hO6
      clear o0 o1 o2 f0 f1 f2 ol
      have o0 := hO6.cell 0
      have o1 := hO6.cell 1
      have o2 := hO6.cell 2
      have f0 := hO6.frozen 0
      have f1 := hO6.frozen 1
      have f2 := hO6.frozen 2
      have ol := hO6.lt
      simp at o0 o1 o2
      clear hO6 hm6 hm46 ho6 hW6 HO4 HR4 HPo HI
      go_wp2_with fail
      go_roundw
      case rel =>
        have hb9 := ((HO6.out.set_ 0 (.slice A6 n c6)).set_ 1 (.slice X6 m6 k6)).set_ 2 (.int .i64 sh)
        simp only [List.setIfInBounds_toArray, List.set_cons_zero, List.set_cons_succ] at hb9
        have hr9 := ((HR6.out.set_other bO 0 (.slice A6 n c6) (by omega)).set_other bO 1 (.slice X6 m6 k6) (by omega)).set_other bO 2 (.int .i64 sh) (by omega)
        have ho9 := own3 (a := .slice A6 n c6) (a' := .slice X6 m6 k6) (a'' := .int .i64 sh) HOw.out HO6.out
        have hm9 := ((HM6.out.setC' (i := 0) (u := .slice A6 n c6) hgOw).setC' (i := 1) (u := .slice X6 m6 k6) hgOw).setC' (i := 2) (u := .int .i64 sh) hgOw
        exact ⟨j + 1, sj.extract u sj.size, A6, c6, X6, m6, k6, by omega, by go_num, rfl, by (have e9 : (sj.extract u sj.size).size = sj.size - u := by simp); omega, HUn, Lib.hid ⟨hb9, hr9, by rw [HTk.out]; exact ho9, hm9⟩⟩
      case measure => simp [intOf]; omega
    · obtain rfl : j = d.length := by omega
      have hu0 : ub sj = r := by have := HU.out; rw [List.drop_length] at this; exact this
      have hF := madeb_ac b d
      rw [List.take_length] at HI
      have HO5 := Lib.hid hO
      have HR5 := Lib.hid hR
      have HI5 := Lib.hid HI.out.2.2.1
      have HM5 := Lib.hid hM
      clear hOO hO hR
      have r0 := HR5.out.cell 0
      have r1 := HR5.out.cell 1
      have r2 := HR5.out.cell 2
      have g0 := HR5.out.frozen 0
      have g1 := HR5.out.frozen 1
      have g2 := HR5.out.frozen 2
      have gl := HR5.out.lt
      simp at r0 r1 r2
      by_cases he : r = []
      · have hje : sj = { data := #[] } := ub_inj (by rw [hu0, he])
        subst hje
        go_wp2_with fail
        have hb9 := ((HR5.out.set_ 0 (.slice A' n c')).set_ 1 (.slice X' m' k')).set_ 2 (.int .i64 sh)
        simp only [List.setIfInBounds_toArray, List.set_cons_zero, List.set_cons_succ] at hb9
        have ho9 := own3 (a := .slice A' n c') (a' := .slice X' m' k') (a'' := .int .i64 sh) HI5.out HR5.out
        have hm9 := ((HM5.out.setC' (i := 0) (u := .slice A' n c') hgRw).setC' (i := 1) (u := .slice X' m' k') hgRw).setC' (i := 2) (u := .int .i64 sh) hgRw
        have q0 := hb9.cell 0
        have q1 := hb9.cell 1
        have q2 := hb9.cell 2
        simp at q0 q1 q2
        refine bodyPost_ret (v := .tuple #[bv A' n c' X' m' k' sh, .int .i64 (d.length : Nat), .int .i64 0]) (by simp [results, Tryz.results17, go_sem, q0, q1, q2]; try rfl) rfl ?_
        exact ⟨A', c', X', m', k', by rw [hF.2, HS0.out], ho9, hm9⟩
      · have hne : (sj.toList == []) = false := by
          rw [ByteArray.toList_eq]
          exact beq_eq_false_iff_ne.2 (show ub sj ≠ [] from fun e => he (by rw [← hu0, e]))
        have h8 : rdc sj = 8 := read_short (by rw [hu0]; exact HRt.out)
        have HTw := Lib.hid (HT.out _ hM)
        have HRd := Lib.hid (show Calls Tryz.prog 53 #[.string sj] wr (ReadNo wr 8) from
          (read_any sj wr (by unfold maxLen; omega) (by unfold rdL; simp; omega) HTw.out).mono (by
            rintro e w'' (⟨q, _⟩ | ⟨_, q⟩)
            · rw [h8] at q; cases q
            · rw [h8] at q; exact q))
        clear h8 hu0
        go_wp2_with fail
        refine HRd.out.mono ?_
        rintro e w6 ⟨rfl, hm6⟩
        have HO6 := Lib.hid (HO5.out.mor hm6)
        have HR6 := Lib.hid (HR5.out.mor hm6)
        have HI6 := Lib.hid (HI5.out.mor hm6)
        have HM6 := Lib.hid (HM5.out.trans' hm6)
        clear o0 o1 o2 ol r0 r1 r2 g0 g1 g2 gl hm6
        have o0 := HO6.out.cell 0
        have o1 := HO6.out.cell 1
        have o2 := HO6.out.cell 2
        have ol := HO6.out.lt
        have r0 := HR6.out.cell 0
        have r1 := HR6.out.cell 1
        have r2 := HR6.out.cell 2
        have g0 := HR6.out.frozen 0
        have g1 := HR6.out.frozen 1
        have g2 := HR6.out.frozen 2
        have gl := HR6.out.lt
        simp at o0 o1 o2 r0 r1 r2
        go_wp2_with fail
        have hb9 := ((HR6.out.set_ 0 (.slice A' n c')).set_ 1 (.slice X' m' k')).set_ 2 (.int .i64 sh)
        simp only [List.setIfInBounds_toArray, List.set_cons_zero, List.set_cons_succ] at hb9
        have ho9 := own3 (a := .slice A' n c') (a' := .slice X' m' k') (a'' := .int .i64 sh) HI6.out HR6.out
        have hm9 := ((HM6.out.setC' (i := 0) (u := .slice A' n c') hgRw).setC' (i := 1) (u := .slice X' m' k') hgRw).setC' (i := 2) (u := .int .i64 sh) hgRw
        have hb9 := hb9.alloc (.cells #[.string { data := #[] }, .int .i64 0, .slice none 0 0] 28)
        have hm9 := hm9.alloc (o := .cells #[.string { data := #[] }, .int .i64 0, .slice none 0 0] 28)
        have ho9 := ho9.mor ((Mor.refl _).alloc (o := .cells #[.string { data := #[] }, .int .i64 0, .slice none 0 0] 28))
        have q0 := hb9.cell 0
        have q1 := hb9.cell 1
        have q2 := hb9.cell 2
        simp at q0 q1 q2
        refine bodyPost_ret (v := .tuple #[bv A' n c' X' m' k' sh, .int .i64 (d.length : Nat), .int .i64 0]) (by simp [results, Tryz.results17, go_sem, q0, q1, q2]; try rfl) rfl ?_
        exact ⟨A', c', X', m', k', by rw [hF.2, HS0.out], ho9, hm9⟩

end Go.Proofs.YtohpibjjlfpaaaaGreatDoor
