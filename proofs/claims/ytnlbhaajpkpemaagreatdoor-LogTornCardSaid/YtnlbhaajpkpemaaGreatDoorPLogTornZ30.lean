/- The walk of log.Replay: a log is texts of entries that can be posted one after another, and a part without an end. -/
import Derived.Test.YtnlbhaajpkpemaaGreatDoorPLogTornZ1
import Derived.Test.YtnlbhaajpkpemaaGreatDoorPLogTornZ2
import Derived.Test.YtnlbhaajpkpemaaGreatDoorPLogTornZ3
import Derived.Test.YtnlbhaajpkpemaaGreatDoorPLogTornZ4
import Derived.Test.YtnlbhaajpkpemaaGreatDoorPLogTornZ5
import Derived.Test.YtnlbhaajpkpemaaGreatDoorPLogTornZ6
import Derived.Test.YtnlbhaajpkpemaaGreatDoorPLogTornZ7
import Derived.Test.YtnlbhaajpkpemaaGreatDoorPLogTornZ8
import Derived.Test.YtnlbhaajpkpemaaGreatDoorPLogTornZ9
import Derived.Test.YtnlbhaajpkpemaaGreatDoorPLogTornZ10
import Derived.Test.YtnlbhaajpkpemaaGreatDoorPLogTornZ11
import Derived.Test.YtnlbhaajpkpemaaGreatDoorPLogTornZ12
import Derived.Test.YtnlbhaajpkpemaaGreatDoorPLogTornZ13
import Derived.Test.YtnlbhaajpkpemaaGreatDoorPLogTornZ14
import Derived.Test.YtnlbhaajpkpemaaGreatDoorPLogTornZ15
import Derived.Test.YtnlbhaajpkpemaaGreatDoorPLogTornZ16
import Derived.Test.YtnlbhaajpkpemaaGreatDoorPLogTornZ17
import Derived.Test.YtnlbhaajpkpemaaGreatDoorPLogTornZ18
import Derived.Test.YtnlbhaajpkpemaaGreatDoorPLogTornZ19
import Derived.Test.YtnlbhaajpkpemaaGreatDoorPLogTornZ20
import Derived.Test.YtnlbhaajpkpemaaGreatDoorPLogTornZ21
import Derived.Test.YtnlbhaajpkpemaaGreatDoorPLogTornZ22
import Derived.Test.YtnlbhaajpkpemaaGreatDoorPLogTornZ23
import Derived.Test.YtnlbhaajpkpemaaGreatDoorPLogTornZ24
import Derived.Test.YtnlbhaajpkpemaaGreatDoorPLogTornZ25
import Derived.Test.YtnlbhaajpkpemaaGreatDoorPLogTornZ26
import Derived.Test.YtnlbhaajpkpemaaGreatDoorPLogTornZ27
import Derived.Test.YtnlbhaajpkpemaaGreatDoorPLogTornZ28
import Derived.Test.YtnlbhaajpkpemaaGreatDoorPLogTornZ29
import Derived.Test.YtnlbhaajpkpemaaGreatDoorRows
import Derived.BigQuiet
import Derived.BigRegion
import Derived.Carry
import Derived.DataElems
import Derived.Deep.DeepCutAuto
import Derived.Deep.LoopGhost
import Derived.Deep.QuietTactic
import Derived.Deep.RegionHeld3
import Derived.Deep.RegionLaw
import Derived.Deep.RegionWith
import Derived.Deep.SlicePairs
import Derived.Deep.Slices
import Derived.Deep.Strs
import Derived.Handy
import Derived.IntWalk
import Derived.Laws.AppendOwn
import Derived.Laws.CopyOwn
import Derived.Laws.CopyRow
import Derived.Laws.Cover1
import Derived.Laws.Externs
import Derived.Laws.NewBlocks
import Derived.Lib.AppendZerosOnto
import Derived.Lib.AtoiAll
import Derived.Lib.AtoiTie
import Derived.Lib.Bytealg
import Derived.Lib.CutLaws
import Derived.Lib.Hide
import Derived.Lib.ItoaLen
import Derived.Lib.ItoaNum
import Derived.Lib.LastIndexLaws
import Derived.Lib.Overlaps
import Derived.Lib.SliceRun
import Derived.Lib.SplitLaws
import Derived.Lib.Walk
import Derived.Maps.Own
import Derived.Maps.OwnSet
import Derived.Maps.Views
import Derived.OpenShut
import Derived.Outline
import Derived.OwnWalk
import Derived.PlainAid
import Derived.ProofKit
import Derived.RegionTactic
import Derived.Shelf.Abstract
import Derived.Shelf.LaysC
import Derived.Shelf.LaysM
import Derived.Shelf.RegionOpenPlain
import Derived.Shelf.Small.Strs
import Derived.Shelf.Strconv.Atoi
import Derived.Shelf.Strconv.AtoiAll
import Derived.Shelf.Strconv.AtoiErrFast
import Derived.Shelf.Strconv.AtoiFail
import Derived.Shelf.Strconv.AtoiInnerAll
import Derived.Shelf.Strconv.AtoiLong
import Derived.Shelf.Strconv.Clone
import Derived.Shelf.Strconv.ErrVarAll
import Derived.Shelf.Strconv.Itoa0
import Derived.Shelf.Strconv.Itoa1
import Derived.Shelf.Strconv.Itoa2
import Derived.Shelf.Strconv.Itoa3
import Derived.Shelf.Strconv.Lower
import Derived.Shelf.Strconv.ParseInt10
import Derived.Shelf.Strconv.ParseIntEmpty
import Derived.Shelf.Strconv.ParseUint10
import Derived.Shelf.Strconv.ParseUint10Any
import Derived.Shelf.Strconv.ParseUint10Empty
import Derived.Shelf.Strconv.RangeError
import Derived.Shelf.Strconv.SyntaxError
import Derived.Shelf.Strconv.ToError
import Derived.Shelf.Strconv.ToErrorRange
import Derived.Shelf.Strings.Builder1
import Derived.Shelf.Strings.BuilderF
import Derived.Shelf.Strings.BuilderK
import Derived.Shelf.Strings.Count
import Derived.Shelf.Strings.Cut
import Derived.Shelf.Strings.Explode
import Derived.Shelf.Strings.LastIndex
import Derived.Shelf.Strings.LastIndexAll
import Derived.Shelf.Strings.RuneCount
import Derived.Shelf.Strings.Search1
import Derived.Shelf.Strings.Search2
import Derived.Shelf.Strings.Search3
import Derived.Shelf.Strings.Shaped
import Derived.Shelf.Strings.Split
import Derived.Shelf.Strings.SplitShaped
import Derived.Shelf.Unicode.Decode
import Derived.Shelf.Unicode.DecodeAny
import Derived.Shelf.Unicode.DecodeSlow
import Derived.Shelf.Utf8.RuneCount
import Derived.Sort.Walk0
import Derived.StringKeys
import Derived.WalkKit
import Derived.WalkSpells
namespace Go.Proofs.YtnlbhaajpkpemaaGreatDoor
open Go Go.ChangeShapes Go.WideShapes Go.ChangeAt Go.RowKit Go.PlainAid
set_option linter.unusedVariables false
set_option maxRecDepth 100000

theorem OwnB.low {w : World} {B B' n m : Nat} {vA vX : Value} {b : Bok} (h : OwnB w B vA vX n m b) (hB : B' ≤ B) : OwnB w B' vA vX n m b := by
  obtain ⟨qs, hq⟩ := h.es
  exact ⟨own_base h.ac hB, h.al, h.astr, qs, own_base hq.row hB, hq.ql, hq.el, fun i hi => ⟨(hq.ent i hi).key, (hq.ent i hi).day, own_base (hq.ent i hi).row hB, (hq.ent i hi).len, (hq.ent i hi).ks, (hq.ent i hi).str⟩⟩
/-- what log.Replay hands back -/
def RepPost (w : World) (n : Nat) (b : Bok) (N : Nat) (e : Ending) (w' : World) : Prop :=
  ∃ A c X m k, e = .returned (.tuple #[bv A n c X m k b.shut, .int .i64 N, .int .i64 0]) ∧ OwnB w' w.heap.size (.slice A n c) (.slice X m k) n m b ∧ Mor w w'
/-- entries that can be posted one after another -/
def Posts (b : Bok) (d : List En) : Prop := ∀ i, i < d.length → postc (madeb b (d.take i)) (ne d i) = 0

set_option maxHeartbeats 3200000 in
theorem replay_ok (A : Option Addr) (n c : Nat) (X : Option Addr) (m k : Nat) (b : Bok) (s : ByteArray) (d : List En) (r : List UInt8) (w : World) (hb : Bq w A n c X m k b) (hc : bookc b = 0) (hs : ub s = texts d ++ r) (hz : s.size ≤ 20000)
    (hr : ∀ x ∈ r, x ≠ 10) (hd : Posts b d) (hdl : d.length ≤ 10000) (ht : Tb w) :
    Calls Tryz.prog 11 #[bv A n c X m k b.shut, .string s] w (RepPost w n (madeb b d) d.length) := by
  have hbo := (bookc_iff b).1 hc
  have HCk := Lib.hid (fun w' (h : Mor w w') => show Calls Tryz.prog 8 #[bv A n c X m k b.shut] w' (fun e w2 => e = .returned (.int .i64 0) ∧ Mor w' w2) from by have := bcheck_any A n c X m k b w' (hb.mor h); rw [hc] at this; exact this)
  have hnl := hb.ac.length
  have hml := hb.length
  have hn24 := acc_len hbo.ac
  have hm60 := hbo.len
  have HCo := Lib.hid (fun w' (h : Mor w w') => show Calls Tryz.prog 27 #[bv A n c X m k b.shut] w' (fun e w2 => ∃ A2 c2 X2 k2, e = .returned (bv A2 n c2 X2 m k2 b.shut) ∧ OwnB w2 w'.heap.size (.slice A2 n c2) (.slice X2 m k2) n m b ∧ Mor w' w2) from
    (copied_any A n c X m k b w' (hb.mor h) (by omega) (by omega) (fun y hy => by have := (linec_ok (entc_ok (hbo.enc y hy)).2.2.2).1; omega)).mono (by
      rintro e w2 ⟨vA, vX, rfl, ho, hm⟩
      obtain ⟨A2, c2, X2, k2, rfl, rfl, _⟩ := ho.bq
      exact ⟨A2, c2, X2, k2, rfl, ho, hm⟩))
  generalize hsh : b.shut = sh at *
  have hzi : decide ((20000 : Int) < (s.size : Int)) = false := decide_eq_false (by omega)
  have HT := Lib.hid (fun w' (h : Mor w w') => ht.mor h)
  have HB := Lib.hid hb
  clear hb ht
  go_enter Tryz.func11, Tryz.ntmps11
  go_wp2_with fail
  have hM0 := ((Mor.refl w).alloc (o := .cells #[.slice A n c, .slice X m k, .int .i64 sh] 25)).alloc (o := .cells #[.slice none 0 0, .slice none 0 0, .int .i64 0] 25)
  have hbP0 := (Bk.new w 25 #[.slice A n c, .slice X m k, .int .i64 sh]).alloc (.cells #[.slice none 0 0, .slice none 0 0, .int .i64 0] 25)
  have hbR0 := Bk.new (w.alloc (.cells #[.slice A n c, .slice X m k, .int .i64 sh] 25)) 25 #[.slice none 0 0, .slice none 0 0, .int .i64 0]
  rw [← szA] at hbR0
  obtain ⟨bP, hgP⟩ : ∃ g, g = w.heap.size := ⟨_, rfl⟩
  rw [← hgP] at hbP0 hbR0 ⊢
  obtain ⟨bR, hgR⟩ : ∃ g, g = bP + 1 := ⟨_, rfl⟩
  rw [← hgR] at hbR0 ⊢
  generalize (w.alloc (.cells #[.slice A n c, .slice X m k, .int .i64 sh] 25)).alloc (.cells #[.slice none 0 0, .slice none 0 0, .int .i64 0] 25) = w0 at *
  have hgRw : w.heap.size ≤ bR := by omega
  have hPR : bP ≠ bR := by omega
  have hRP : bR ≠ bP := by omega
  clear hgP hgR
  refine (HCk.out _ hM0).mono ?_
  rintro e w1 ⟨rfl, hm1⟩
  have hbP := hbP0.mor hm1
  have HR1 := Lib.hid (hbR0.mor hm1)
  have HM1 := Lib.hid (hM0.trans' hm1)
  have HP1 := Lib.hid hbP
  have c0 := hbP.cell 0
  have c1 := hbP.cell 1
  have c2 := hbP.cell 2
  have cl := hbP.lt
  simp at c0 c1 c2
  clear hM0 hbP0 hbR0 hm1 hbP
  go_wp2_with fail
  refine (HCo.out _ HM1.out).mono ?_
  rintro e w2 ⟨A2, c2', X2, k2, rfl, ho2, hm2⟩
  have HO2 := Lib.hid ho2
  have HM2 := Lib.hid (HM1.out.trans' hm2)
  have HR2 := Lib.hid (HR1.out.mor hm2)
  clear ho2 hm2 c0 c1 c2 cl HP1 HR1
  go_wp2_with fail
  have hO3 := Bk.new w2 25 #[.slice A2 n c2', .slice X2 m k2, .int .i64 sh]
  have hm23 := (Mor.refl w2).alloc (o := .cells #[.slice A2 n c2', .slice X2 m k2, .int .i64 sh] 25)
  obtain ⟨bO, hgO⟩ : ∃ g, g = w2.heap.size := ⟨_, rfl⟩
  rw [← hgO] at hO3 ⊢
  have hRO : bR < bO := by rw [hgO]; exact HR2.out.lt
  have hgOw : w.heap.size ≤ bO := by rw [hgO]; exact HM2.out.below.size
  clear hgO
  have hOO3 := (HO2.out.mor hm23).low HM1.out.below.size
  have hR3 := HR2.out.mor hm23
  have hM3 := HM2.out.trans' hm23
  clear HO2 HR2 hm23
  generalize w2.alloc (.cells #[.slice A2 n c2', .slice X2 m k2, .int .i64 sh] 25) = w3 at *
  clear HM2
  have HD := Lib.hid hd
  have HSh := Lib.hid (fun es => (madeb_ac b es).2)
  have HAc := Lib.hid (fun es => (madeb_ac b es).1)
  have HS0 := Lib.hid hsh
  have HRt := Lib.hid hr
  go_loopw [1, 9] (fun v i wr => ∃ (j : Nat) (sj : ByteArray) (A' : Option Addr) (c' : Nat) (X' : Option Addr) (m' k' : Nat), j ≤ d.length ∧ i = .int .i64 j ∧ v = .string sj ∧ sj.size ≤ 20000 ∧ Hid (ub sj = texts (d.drop j) ++ r) ∧ Hid (Bk wr bO 25 #[.slice A' n c', .slice X' m' k', .int .i64 sh] ∧ Bk wr bR 25 #[.slice none 0 0, .slice none 0 0, .int .i64 0] ∧ OwnB wr w.heap.size (.slice A' n c') (.slice X' m' k') n m' (madeb b (d.take j)) ∧ Mor w wr)) (fun _ i _ => d.length - (intOf i).toNat)
  case atStart => exact ⟨0, s, A2, c2', X2, m, k2, Nat.zero_le _, rfl, rfl, hz, Lib.hid (by rw [List.drop_zero]; exact hs), Lib.hid ⟨hO3, hR3, by rw [List.take_zero]; exact hOO3, hM3⟩⟩
  case round =>
    clear hO3 hR3 hOO3 hM3
    obtain ⟨j, sj, A', c', X', m', k', hj, rfl, rfl, hsz, HU, HI⟩ := hrel
    obtain ⟨hO, hR, hOO, hM⟩ := HI.out
    have o0 := hO.cell 0
    have o1 := hO.cell 1
    have o2 := hO.cell 2
    have ol := hO.lt
    simp at o0 o1 o2
    by_cases hlt : j < d.length
    · have hpc := HD.out j hlt
      have hen := (post_pre hpc).2.1
      obtain ⟨ra, rb, rg, rd, re, rf⟩ := rp_step hlt hen HU.out
      have hbq := own_bq hOO
      have hsj := HSh.out (d.take j)
      rw [HS0.out] at hsj
      have haj := hbq.ac.length
      have hks : (ne d j).key.size ≤ maxLen := by
        have h1 := rdE_key sj
        rw [rb] at h1
        have h2 : (rdP sj).size ≤ sj.size := by unfold rdP rdL; simp; omega
        unfold maxLen; omega
      have HTw := Lib.hid (HT.out _ hM)
      have HRd := Lib.hid (fun w' (g : Mor wr w') => show Calls Tryz.prog 31 #[.string sj] w' (fun e w'' => RY w' (ne d j).key (ne d j).day (ne d j).ls ((textT (ne d j)).length : Nat) e w'') from
        (read_any sj w' (by unfold maxLen; omega) (by unfold rdL; simp; omega) (HTw.out.mor g)).mono (by
          rintro e w'' (⟨_, _, _, _, hy⟩ | ⟨hn, _⟩)
          · rw [rb, rg] at hy; exact hy
          · exact absurd ra hn))
      have HTk := Lib.hid (madeb_take b d j hlt)
      have HUn := Lib.hid rd
      generalize hu : (textT (ne d j)).length = u at *
      generalize madeb b (d.take j) = bj at *
      generalize ne d j = y at *
      obtain ⟨ky, dy, ls⟩ := y
      have HPo := Lib.hid (fun A9 m9 c9 w4 (hq : Lq w4 A9 m9 c9 ls) w' (g : Mor wr w') (g4 : Mor w4 w') => show Calls Tryz.prog 9 #[bv A' n c' X' m' k' sh, .agg #[.string ky, .int .i64 dy, .slice A9 m9 c9]] w' (fun e w'' => ∃ A c X m k, e = .returned (.tuple #[bv A n c X m k sh, .int .i64 0]) ∧ OwnB w'' w'.heap.size (.slice A n c) (.slice X m k) n m (stepb bj ⟨ky, dy, ls⟩) ∧ Mor w' w'') by
        have h3 := post_yes A' n c' X' m' k' bj ⟨ky, dy, ls⟩ A9 m9 c9 w' (hbq.mor g) (hq.mor g4) hks hpc
        rw [hsj] at h3
        refine h3.mono fun e w'' h => ?_
        obtain ⟨A9, c9, X9, m9, k9, he, ho, hm9⟩ := postYes_own h (n := n) (by rw [(post_ac _ _).1]; exact haj)
        rw [(post_ac _ _).2, hsj] at he
        exact ⟨A9, c9, X9, m9, k9, he, by rw [stepb_yes hpc]; exact ho, hm9⟩)
      have hne : (sj.toList == []) = false := by
        rw [ByteArray.toList_eq]
        refine beq_eq_false_iff_ne.2 (show ub sj ≠ [] from fun e => ?_)
        have h9 := ub_len sj
        rw [e] at h9
        simp at h9
        omega
      have hu1 : (u : Int) ≤ (sj.size : Int) := by omega
      have hu0 : (0 : Int) ≤ (u : Int) := by omega
      clear ra rb rg rd hen hpc hsj haj hks hu
      go_wp2_with fail
      refine (HRd.out _ (Mor.refl _)).mono ?_
      rintro e w4 ⟨A9, m9, c9, rfl, ⟨hq, -⟩, hm4⟩
      have HO4 := Lib.hid (hO.mor hm4)
      have HR4 := Lib.hid (hR.mor hm4)
      have HM4 := Lib.hid hm4
      have HQ4 := Lib.hid hq
      have hO4 := hO.mor hm4
      clear o0 o1 o2 ol hq HRd
      have o0 := hO4.cell 0
      have o1 := hO4.cell 1
      have o2 := hO4.cell 2
      have f0 := hO4.frozen 0
      have f1 := hO4.frozen 1
      have f2 := hO4.frozen 2
      have ol := hO4.lt
      simp at o0 o1 o2
      clear hO4 hO hR hOO hM hm4
      go_wp2_with fail
      refine (HPo.out A9 m9 c9 w4 HQ4.out _ HM4.out.alloc (Mor.refl _).alloc).mono ?_
      rintro e w6 ⟨A6, c6, X6, m6, k6, rfl, ho6, hm6⟩
      have hm46 := (Mor.refl w4).alloc.trans' hm6
      have hO6 := HO4.out.mor hm46
      have HR6 := Lib.hid (HR4.out.mor hm46)
      have hW6 := HI.out.2.2.2.trans' (HM4.out.trans' hm46)
      have HM6 := Lib.hid hW6
      have HB6 := Lib.hid (show w.heap.size ≤ (w4.alloc (.cells #[.string ky, .int .i64 dy, .slice A9 m9 c9] 31)).heap.size from ((HI.out.2.2.2.trans' HM4.out).alloc (o := .cells #[.string ky, .int .i64 dy, .slice A9 m9 c9] 31)).below.size)
      have HOw := Lib.hid (ho6.low HB6.out)
      have HO6 := Lib.hid hO6
      clear o0 o1 o2 f0 f1 f2 ol
      have o0 := hO6.cell 0
      have o1 := hO6.cell 1
      have o2 := hO6.cell 2
      have f0 := hO6.frozen 0
      have f1 := hO6.frozen 1
      have f2 := hO6.frozen 2
      have ol := hO6.lt
      simp at o0 o1 o2
      clear hO6 hm6 hm46 ho6 hW6 HO4 HR4 HPo HI
      go_wp2_with fail
      go_roundw
      case rel =>
        have hb9 := ((HO6.out.set_ 0 (.slice A6 n c6)).set_ 1 (.slice X6 m6 k6)).set_ 2 (.int .i64 sh)
        simp only [List.setIfInBounds_toArray, List.set_cons_zero, List.set_cons_succ] at hb9
        have hr9 := ((HR6.out.set_other bO 0 (.slice A6 n c6) (by omega)).set_other bO 1 (.slice X6 m6 k6) (by omega)).set_other bO 2 (.int .i64 sh) (by omega)
        have ho9 := own3 (a := .slice A6 n c6) (a' := .slice X6 m6 k6) (a'' := .int .i64 sh) HOw.out HO6.out
        have hm9 := ((HM6.out.setC' (i := 0) (u := .slice A6 n c6) hgOw).setC' (i := 1) (u := .slice X6 m6 k6) hgOw).setC' (i := 2) (u := .int .i64 sh) hgOw
        exact ⟨j + 1, sj.extract u sj.size, A6, c6, X6, m6, k6, by omega, by go_num, rfl, by (have e9 : (sj.extract u sj.size).size = sj.size - u := by simp); omega, HUn, Lib.hid ⟨hb9, hr9, by rw [HTk.out]; exact ho9, hm9⟩⟩
      case measure => simp [intOf]; omega
    · obtain rfl : j = d.length := by omega
      have hu0 : ub sj = r := by have := HU.out; rw [List.drop_length] at this; exact this
      have hF := madeb_ac b d
      rw [List.take_length] at HI
      have HO5 := Lib.hid hO
      have HR5 := Lib.hid hR
      have HI5 := Lib.hid HI.out.2.2.1
      have HM5 := Lib.hid hM
      clear hOO hO hR
      have r0 := HR5.out.cell 0
      have r1 := HR5.out.cell 1
      have r2 := HR5.out.cell 2
      have g0 := HR5.out.frozen 0
      have g1 := HR5.out.frozen 1
      have g2 := HR5.out.frozen 2
      have gl := HR5.out.lt
      simp at r0 r1 r2
      by_cases he : r = []
      · have hje : sj = { data := #[] } := ub_inj (by rw [hu0, he])
        subst hje
        go_wp2_with fail
        have hb9 := ((HR5.out.set_ 0 (.slice A' n c')).set_ 1 (.slice X' m' k')).set_ 2 (.int .i64 sh)
        simp only [List.setIfInBounds_toArray, List.set_cons_zero, List.set_cons_succ] at hb9
        have ho9 := own3 (a := .slice A' n c') (a' := .slice X' m' k') (a'' := .int .i64 sh) HI5.out HR5.out
        have hm9 := ((HM5.out.setC' (i := 0) (u := .slice A' n c') hgRw).setC' (i := 1) (u := .slice X' m' k') hgRw).setC' (i := 2) (u := .int .i64 sh) hgRw
        have q0 := hb9.cell 0
        have q1 := hb9.cell 1
        have q2 := hb9.cell 2
        simp at q0 q1 q2
        refine bodyPost_ret (v := .tuple #[bv A' n c' X' m' k' sh, .int .i64 (d.length : Nat), .int .i64 0]) (by simp [results, Tryz.results11, go_sem, q0, q1, q2]; try rfl) rfl ?_
        exact ⟨A', c', X', m', k', by rw [hF.2, HS0.out], ho9, hm9⟩
      · have hne : (sj.toList == []) = false := by
          rw [ByteArray.toList_eq]
          exact beq_eq_false_iff_ne.2 (show ub sj ≠ [] from fun e => he (by rw [← hu0, e]))
        have h8 : rdc sj = 8 := read_short (by rw [hu0]; exact HRt.out)
        have HTw := Lib.hid (HT.out _ hM)
        have HRd := Lib.hid (show Calls Tryz.prog 31 #[.string sj] wr (ReadNo wr 8) from
          (read_any sj wr (by unfold maxLen; omega) (by unfold rdL; simp; omega) HTw.out).mono (by
            rintro e w'' (⟨q, _⟩ | ⟨_, q⟩)
            · rw [h8] at q; cases q
            · rw [h8] at q; exact q))
        clear h8 hu0
        go_wp2_with fail
        refine HRd.out.mono ?_
        rintro e w6 ⟨rfl, hm6⟩
        have HO6 := Lib.hid (HO5.out.mor hm6)
        have HR6 := Lib.hid (HR5.out.mor hm6)
        have HI6 := Lib.hid (HI5.out.mor hm6)
        have HM6 := Lib.hid (HM5.out.trans' hm6)
        clear o0 o1 o2 ol r0 r1 r2 g0 g1 g2 gl hm6
        have o0 := HO6.out.cell 0
        have o1 := HO6.out.cell 1
        have o2 := HO6.out.cell 2
        have ol := HO6.out.lt
        have r0 := HR6.out.cell 0
        have r1 := HR6.out.cell 1
        have r2 := HR6.out.cell 2
        have g0 := HR6.out.frozen 0
        have g1 := HR6.out.frozen 1
        have g2 := HR6.out.frozen 2
        have gl := HR6.out.lt
        simp at o0 o1 o2 r0 r1 r2
        go_wp2_with fail
        have hb9 := ((HR6.out.set_ 0 (.slice A' n c')).set_ 1 (.slice X' m' k')).set_ 2 (.int .i64 sh)
        simp only [List.setIfInBounds_toArray, List.set_cons_zero, List.set_cons_succ] at hb9
        have ho9 := own3 (a := .slice A' n c') (a' := .slice X' m' k') (a'' := .int .i64 sh) HI6.out HR6.out
        have hm9 := ((HM6.out.setC' (i := 0) (u := .slice A' n c') hgRw).setC' (i := 1) (u := .slice X' m' k') hgRw).setC' (i := 2) (u := .int .i64 sh) hgRw
        have hb9 := hb9.alloc (.cells #[.string { data := #[] }, .int .i64 0, .slice none 0 0] 31)
        have hm9 := hm9.alloc (o := .cells #[.string { data := #[] }, .int .i64 0, .slice none 0 0] 31)
        have ho9 := ho9.mor ((Mor.refl _).alloc (o := .cells #[.string { data := #[] }, .int .i64 0, .slice none 0 0] 31))
        have q0 := hb9.cell 0
        have q1 := hb9.cell 1
        have q2 := hb9.cell 2
        simp at q0 q1 q2
        refine bodyPost_ret (v := .tuple #[bv A' n c' X' m' k' sh, .int .i64 (d.length : Nat), .int .i64 0]) (by simp [results, Tryz.results11, go_sem, q0, q1, q2]; try rfl) rfl ?_
        exact ⟨A', c', X', m', k', by rw [hF.2, HS0.out], ho9, hm9⟩

/-- what was posted can be posted again from the same beginning -/
theorem donel_made (b : Bok) (xs : List En) : madeb b (donel b xs) = madeb b xs ∧ Posts b (donel b xs) := by
  induction xs generalizing b with
  | nil => exact ⟨rfl, fun i hi => absurd hi (by simp [donel])⟩
  | cons x xs ih =>
    by_cases h : postc b x = 0
    · have e : donel b (x :: xs) = x :: donel (postb b x) xs := by show (if postc b x = 0 then x :: donel (postb b x) xs else donel b xs) = _; rw [if_pos h]
      obtain ⟨h1, h2⟩ := ih (postb b x)
      rw [e]
      refine ⟨?_, fun i hi => ?_⟩
      · show madeb (stepb b x) (donel (postb b x) xs) = madeb (stepb b x) xs
        rw [stepb_yes h]; exact h1
      · cases i with
        | zero => exact h
        | succ i =>
          have := h2 i (by simpa using hi)
          rw [List.take_succ_cons]
          show postc (madeb (stepb b x) ((donel (postb b x) xs).take i)) (ne (donel (postb b x) xs) i) = 0
          rw [stepb_yes h]; exact this
    · have e : donel b (x :: xs) = donel b xs := by show (if postc b x = 0 then x :: donel (postb b x) xs else donel b xs) = _; rw [if_neg h]
      obtain ⟨h1, h2⟩ := ih b
      rw [e]
      refine ⟨?_, h2⟩
      show madeb b (donel b xs) = madeb (stepb b x) xs
      rw [stepb_no h]; exact h1
end Go.Proofs.YtnlbhaajpkpemaaGreatDoor

/- The walk of talkeep.LogTorn (printed by glogtorn.py). -/
namespace Go.Proofs.YtnlbhaajpkpemaaGreatDoor.logTorn
open Go.ChangeShapes Go.WideShapes Go.ChangeAt Go.RowKit Go.PlainAid
set_option linter.unusedVariables false
set_option maxRecDepth 100000

set_option maxRecDepth 100000 in
set_option maxHeartbeats 3200000 in
theorem logTorn_walk (w : World) (ht : Tb w) (A : Option Addr) (n c : Nat) (X : Option Addr) (m k : Nat) (b : Bok) (hb : Bq w A n c X m k b) (E : Option Addr) (p q : Nat) (es : List En) (he : Es w E es ∧ es.length = p ∧ p ≤ q ∧ q ≤ maxLen ∧ (E = none → p = 0)) (v1 : Int) (w1 : (Lit.int .i64 v1).wf = true) :
    Calls Tryz.prog 4 #[bv A n c X m k b.shut, .slice E p q, .int .i64 v1] w fun e w' => e = .returned (.bool true) ∧ Below w.heap.size w w' := by
  have HT := Lib.hid (fun w' (h : Mor w w') => ht.mor h)
  obtain ⟨he, hel, hpq, hq63, hEn⟩ := he
  unfold maxLen at hq63
  obtain ⟨P, hP, hPp, hP20⟩ : ∃ P : Nat, min (p : Int) 20 = (P : Int) ∧ P ≤ p ∧ P ≤ 20 := by
    by_cases h : p ≤ 20
    · exact ⟨p, by omega, Nat.le_refl _, h⟩
    · exact ⟨20, by omega, by omega, Nat.le_refl _⟩
  have hP0 : (0 : Int) ≤ (P : Int) := by omega
  have hPq : (P : Int) ≤ (q : Int) := by omega
  obtain ⟨i0, hi0, hz0, hz1, hz2⟩ := info_parts info_entry
  have HCk := Lib.hid (fun w' (h : Mor w w') => bcheck_any A n c X m k b w' (hb.mor h))
  have HB := Lib.hid hb
  have HE := Lib.hid (fun w' (h : Mor w w') => he.mor h)
  have HEl := Lib.hid hel
  generalize hsh : b.shut = sh at *
  have HSh := Lib.hid hsh
  clear hb hsh he hel hEn ht
  go_enter Tryz.func4, Tryz.ntmps4
  go_wp2_with fail
  refine (begun_lg _ (HT.out _ (Mor.refl _).alloc)).mono ?_
  rintro e w2a ⟨rfl, hma⟩
  go_wp2_with fail
  refine (begun_any _).mono ?_
  rintro e w2 ⟨rfl, hmb⟩
  have hm := hma.trans' hmb
  clear hma hmb
  have hP := (C3.new w (.slice A n c) (.slice X m k) (.int .i64 sh) 25).mor hm
  have hM2 := (Mor.refl w).alloc.trans' hm
  obtain ⟨bP, hbP⟩ : ∃ g, g = w.heap.size := ⟨_, rfl⟩
  rw [← hbP] at hP ⊢
  obtain ⟨c0, c1, c2, cl⟩ := hP
  have HP2 := Lib.hid (show C3 w2 bP (.slice A n c) (.slice X m k) (.int .i64 sh) from ⟨c0, c1, c2, cl⟩)
  have HM2 := Lib.hid hM2
  have HwP := Lib.hid (show w.heap.size ≤ bP by omega)
  clear hM2 hm hbP
  go_wp2_with fail
  refine (HCk.out _ HM2.out).mono ?_
  rintro e w3 ⟨rfl, hm⟩
  have HP3 := Lib.hid (HP2.out.mor hm)
  have HM3 := Lib.hid (HM2.out.trans' hm)
  clear hm c0 c1 c2 cl HP2 HCk
  by_cases hc : bookc b = 0
  · have hbo := (bookc_iff b).1 hc
    rw [hc]
    obtain ⟨c0, c1, c2, cl⟩ := HP3.out
    go_wp2_with fail
    have hX := Bk.new w3 25 #[.slice A n c, .slice X m k, .int .i64 sh]
    have hM34 := (Mor.refl w3).alloc (o := .cells #[.slice A n c, .slice X m k, .int .i64 sh] 25)
    obtain ⟨bX, hbX⟩ : ∃ g, g = w3.heap.size := ⟨_, rfl⟩
    rw [← hbX] at hX ⊢
    have hwX : w3.heap.size ≤ bX := by omega
    have hPX : bP < bX := by omega
    clear hbX c0 c1 c2 cl
    generalize w3.alloc (.cells #[.slice A n c, .slice X m k, .int .i64 sh] 25) = w4 at *
    have HBo := Lib.hid hbo
    have HAc := Lib.hid (fun es => (madeb_ac b es).1)
    have HSs := Lib.hid (fun es => (madeb_ac b es).2)
    clear hc hbo
    go_loopw [8, 38] (fun v i wr => ∃ (j cnt : Nat) (A' : Option Addr) (c' : Nat) (X' : Option Addr) (m' k' : Nat) (DA : Option Addr) (DC : Nat), j ≤ P ∧ cnt ≤ j ∧ i = .int .i64 j ∧ v = .slice DA cnt DC ∧ Hid (Bk wr bX 25 #[.slice A' n c', .slice X' m' k', .int .i64 sh] ∧ Hld wr A n c X m k b A' c' X' m' k' (madeb b (es.take j)) ∧ Dn w3 wr (.slice DA cnt DC) cnt (donel b (es.take j)) ∧ Mor w3 wr)) (fun _ i _ => P - (intOf i).toNat)
    case atStart => exact ⟨0, 0, A, c, X, m, k, none, 0, Nat.zero_le _, Nat.le_refl _, rfl, rfl, Lib.hid ⟨hX, by rw [List.take_zero]; exact Hld.start, by rw [List.take_zero]; exact Dn.start _ _, hM34⟩⟩
    case round =>
      clear hX hM34
      obtain ⟨j, cnt, A', c', X', m', k', DA, DC, hj, hcj, rfl, rfl, HR⟩ := hrel
      by_cases hlt : j < P
      · have hji : (j : Int) < (P : Int) := by omega
        have hj0 : (0 : Int) ≤ (j : Int) := by omega
        have hjl : j < es.length := by rw [HEl.out]; omega
        obtain ⟨hbX, hld, hdn, hm⟩ := HR.out
        obtain ⟨x, A2, n2, c2', hE, hxb, hks, d0, d1, d2, hlq⟩ := (HE.out _ HM3.out).at_ j hjl
        subst hE
        have hcm := fun {pl : Addr} (h : pl.block < w3.heap.size) => hm.below.cell (p := pl) h
        have d0 := (hcm (pl := x.add (j * 3)) (by rw [addb]; exact hxb)).trans d0
        have d1 := (hcm (pl := ⟨(x.add (j * 3)).block, (x.add (j * 3)).off + 1, none⟩) (by rw [addb]; exact hxb)).trans d1
        have d2 := (hcm (pl := ⟨(x.add (j * 3)).block, (x.add (j * 3)).off + 2, none⟩) (by rw [addb]; exact hxb)).trans d2
        have hxb : x.block < wr.heap.size := Nat.lt_of_lt_of_le hxb hm.below.size
        have HTk := Lib.hid (madeb_take b es j hjl)
        have HDk := Lib.hid (donel_take b es j hjl)
        have hbq := hld.bq HB.out (HM3.out.trans' hm)
        have hsj := HSs.out (es.take j)
        rw [HSh.out] at hsj
        have haj := hbq.ac.length
        have hx0 := hbX.cell 0
        have hx1 := hbX.cell 1
        have hx2 := hbX.cell 2
        have hxl := hbX.lt
        simp at hx0 hx1 hx2
        generalize madeb b (es.take j) = bj at *
        generalize donel b (es.take j) = dj at *
        generalize ne es j = y at *
        obtain ⟨ky, dy, ls⟩ := y
        dsimp only at d0 d1 hks hlq
        have HLq := Lib.hid hlq
        have HKs := Lib.hid hks
        have HPn := Lib.hid (fun w' (h : Mor wr w') (hc : postc bj ⟨ky, dy, ls⟩ ≠ 0) => show Calls Tryz.prog 9 #[bv A' n c' X' m' k' sh, .agg #[.string ky, .int .i64 dy, .slice A2 n2 c2']] w' (PostNo w' (postc bj ⟨ky, dy, ls⟩)) by
          have h3 := post_no A' n c' X' m' k' bj ⟨ky, dy, ls⟩ A2 n2 c2' w' (hbq.mor h) (hlq.mor (hm.trans' h)) hks hc
          rw [hsj] at h3
          exact h3)
        have HPy := Lib.hid (fun w' (h : Mor wr w') (hc : postc bj ⟨ky, dy, ls⟩ = 0) => show Calls Tryz.prog 9 #[bv A' n c' X' m' k' sh, .agg #[.string ky, .int .i64 dy, .slice A2 n2 c2']] w' (fun e w'' => ∃ A c X m k, e = .returned (.tuple #[bv A n c X m k sh, .int .i64 0]) ∧ OwnB w'' w'.heap.size (.slice A n c) (.slice X m k) n m (stepb bj ⟨ky, dy, ls⟩) ∧ Mor w' w'') by
          have h3 := post_yes A' n c' X' m' k' bj ⟨ky, dy, ls⟩ A2 n2 c2' w' (hbq.mor h) (hlq.mor (hm.trans' h)) hks hc
          rw [hsj] at h3
          refine h3.mono fun e w'' h => ?_
          obtain ⟨A9, c9, X9, m9, k9, he, ho, hm9⟩ := postYes_own h (n := n) (by rw [(post_ac _ _).1]; exact haj)
          rw [(post_ac _ _).2, hsj] at he
          exact ⟨A9, c9, X9, m9, k9, he, by rw [stepb_yes hc]; exact ho, hm9⟩)
        have HR2 := Lib.hid (fun w' (h : Mor wr w') => And.intro (hbX.mor h) (And.intro (hld.mor h) (And.intro (hdn.mor h) (hm.trans' h))))
        clear hbX hld hm hbq hlq haj hsj HR hdn hks hcm
        by_cases hc : postc bj ⟨ky, dy, ls⟩ = 0
        · have HP := Lib.hid (fun w' h => HPy.out w' h hc)
          rw [if_pos hc] at HDk
          clear hc HPn HPy
          go_wp2_with fail
          refine (HP.out _ (Mor.refl _).alloc).mono ?_
          rintro e w5 ⟨A9, c9, X9, m9, k9, rfl, ho, hm5⟩
          obtain ⟨qs, hrow, hql, hdl, hen⟩ := (HR2.out wr (Mor.refl _)).2.2.1
          have hgr : ∀ g, (Value.slice DA cnt DC).ownBlock = some g → g < wr.heap.size := fun g hg => (own_blk hrow hg).1
          have hen5 := (C3.new wr (.string ky) (.int .i64 dy) (.slice A2 n2 c2') 31).mor hm5
          have hmr5 := (Mor.refl wr).alloc.trans' hm5
          have hszB : (wr.alloc (.cells #[.string ky, .int .i64 dy, .slice A2 n2 c2'] 31)).heap.size = wr.heap.size + 1 := by simp
          rw [hszB] at ho
          obtain ⟨hbX5, -, -, hm35⟩ := HR2.out _ hmr5
          have hrow5 := own_mor hrow hmr5
          obtain ⟨bN, hbN⟩ : ∃ g, g = wr.heap.size := ⟨_, rfl⟩
          rw [← hbN] at hen5 ho hgr ⊢
          have hXN : bX < bN := by rw [hbN]; exact (HR2.out wr (Mor.refl _)).1.lt
          clear hbN hszB
          go_wp2_with fail
          have hbV6 := Bk.new w5 25 #[.slice A9 n c9, .slice X9 m9 k9, .int .i64 sh]
          have hen6 := hen5.mor ((Mor.refl w5).alloc (o := .cells #[.slice A9 n c9, .slice X9 m9 k9, .int .i64 sh] 25))
          have hbX6 := hbX5.alloc (.cells #[.slice A9 n c9, .slice X9 m9 k9, .int .i64 sh] 25)
          have hO6 := ho.mor ((Mor.refl w5).alloc (o := .cells #[.slice A9 n c9, .slice X9 m9 k9, .int .i64 sh] 25))
          have hrow6 := own_mor hrow5 ((Mor.refl w5).alloc (o := .cells #[.slice A9 n c9, .slice X9 m9 k9, .int .i64 sh] 25))
          have hm36 := hm35.alloc (o := .cells #[.slice A9 n c9, .slice X9 m9 k9, .int .i64 sh] 25)
          obtain ⟨bV, hbV⟩ : ∃ g, g = w5.heap.size := ⟨_, rfl⟩
          have hXV : bX < bV := by rw [hbV]; exact hbX5.lt
          have hNV : bN < bV := by rw [hbV]; exact hen5.2.2.2
          rw [← hbV] at hbV6 ⊢
          have hVX : bV ≠ bX := by omega
          clear hbV hmr5 hrow hrow5 hen5 hbX5 hm35 ho hm5 hx0 hx1 hx2 hxl d0 d1 d2 HR2 HP
          generalize w5.alloc (.cells #[.slice A9 n c9, .slice X9 m9 k9, .int .i64 sh] 25) = w6 at *
          have HO6 := Lib.hid hO6
          have HRow6 := Lib.hid hrow6
          have HbX6 := Lib.hid hbX6
          have HM36 := Lib.hid hm36
          have HEn := Lib.hid hen
          have HGr := Lib.hid hgr
          have HbV6 := Lib.hid hbV6
          have y0 := hbV6.cell 0
          have y1 := hbV6.cell 1
          have y2 := hbV6.cell 2
          have yl := hbV6.lt
          simp at y0 y1 y2
          obtain ⟨e0, e1, e2, el⟩ := hen6
          have x0 := hbX6.cell 0
          have x1 := hbX6.cell 1
          have x2 := hbX6.cell 2
          have f0 := hbX6.frozen 0
          have f1 := hbX6.frozen 1
          have f2 := hbX6.frozen 2
          have xl := hbX6.lt
          simp at x0 x1 x2
          clear hO6 hrow6 hbX6 hm36 hen hgr hbV6
          go_region_law (first
            | (refine step_append_own rfl (.tmp 51) (.tmp 53) 23 rfl _ 31 i0 (.agg #[.string { data := #[] }, .int .i64 0, .slice none 0 0]) 3 48 Tryz.underlying23 hi0 hz0 hz1 hz2 rfl (by decide) _ cnt (flat ec qs) (by simp [Act.eval]) (own_mor (HRow6.out) (by repeat (first | exact Mor.refl _ | apply Mor.alloc | apply Mor.drew))) ⟨w6.heap.size, 0, none⟩ 1 1 [.string ky, .int .i64 dy, .slice A2 n2 c2'] (by simp [Act.eval]) rfl (lit_at _ _ _ rfl (by simp [go_sem])) (by intro u hu; simp at hu; rcases hu with rfl | rfl | rfl <;> rfl) (by unfold maxLen; omega) (by omega) (by have := HM36.out.below.size; simp [go_sem]; omega) ?_; intro u7 w7 hown7 hgrow7; obtain ⟨A7, c7, rfl, _, _, _⟩ := own_shape hown7; have hbX7 := Bk.growT (Bk.mor (HbX6.out) (by repeat (first | exact Mor.refl _ | apply Mor.alloc | apply Mor.drew))) (own_mor (HRow6.out) (by repeat (first | exact Mor.refl _ | apply Mor.alloc | apply Mor.drew))) hgrow7 (by decide); have hbV7 := Bk.growT (Bk.mor (HbV6.out) (by repeat (first | exact Mor.refl _ | apply Mor.alloc | apply Mor.drew))) (own_mor (HRow6.out) (by repeat (first | exact Mor.refl _ | apply Mor.alloc | apply Mor.drew))) hgrow7 (by decide); have hm7 : Mor w3 w7 := own_step (own_mor (HRow6.out) (by repeat (first | exact Mor.refl _ | apply Mor.alloc | apply Mor.drew))) (Mor.trans' (HM36.out) (by repeat (first | exact Mor.refl _ | apply Mor.alloc | apply Mor.drew))) hgrow7; have hO7 := OwnB.growlt (OwnB.mor (HO6.out) (by repeat (first | exact Mor.refl _ | apply Mor.alloc | apply Mor.drew))) hgrow7 (fun g hg => by have := HGr.out g hg; omega); have HX7 := Lib.hid (And.intro hbX7 (And.intro hO7 (And.intro hown7 hm7))); have p0 := hbX7.cell 0; have p1 := hbX7.cell 1; have p2 := hbX7.cell 2; have g0 := hbX7.frozen 0; have g1 := hbX7.frozen 1; have g2 := hbX7.frozen 2; have pl := hbX7.lt; have v0 := hbV7.cell 0; have v1' := hbV7.cell 1; have v2 := hbV7.cell 2; have vl := hbV7.lt; simp at p0 p1 p2 v0 v1' v2; clear hbX7 hbV7 hm7 hO7 hown7 hgrow7)
            | (refine step_append_own rfl (.tmp 51) (.tmp 53) 23 rfl _ 31 i0 (.agg #[.string { data := #[] }, .int .i64 0, .slice none 0 0]) 3 48 Tryz.underlying23 hi0 hz0 hz1 hz2 rfl (by decide) _ cnt (flat ec qs) (by simp [Act.eval]) (own_mor (own_setT (own_setT (own_setT (u := .slice A9 n c9) (i := 0) (own_mor HRow6.out (Mor.refl w6).drew) HbX6.out.drew (by decide)) (u := .slice X9 m9 k9) (i := 1) (HbX6.out.drew.set_ 0 (.slice A9 n c9)) (by decide)) (u := .int .i64 sh) (i := 2) ((HbX6.out.drew.set_ 0 (.slice A9 n c9)).set_ 1 (.slice X9 m9 k9)) (by decide)) (by repeat (first | exact Mor.refl _ | apply Mor.alloc | apply Mor.drew))) ⟨w6.heap.size, 0, none⟩ 1 1 [.string ky, .int .i64 dy, .slice A2 n2 c2'] (by simp [Act.eval]) rfl (lit_at _ _ _ rfl (by simp [go_sem])) (by intro u hu; simp at hu; rcases hu with rfl | rfl | rfl <;> rfl) (by unfold maxLen; omega) (by omega) (by have := HM36.out.below.size; simp [go_sem]; omega) ?_; intro u7 w7 hown7 hgrow7; obtain ⟨A7, c7, rfl, _, _, _⟩ := own_shape hown7; have hbX7 := Bk.growT (Bk.mor (((HbX6.out.drew.set_ 0 (.slice A9 n c9)).set_ 1 (.slice X9 m9 k9)).set_ 2 (.int .i64 sh)) (by repeat (first | exact Mor.refl _ | apply Mor.alloc | apply Mor.drew))) (own_mor (own_setT (own_setT (own_setT (u := .slice A9 n c9) (i := 0) (own_mor HRow6.out (Mor.refl w6).drew) HbX6.out.drew (by decide)) (u := .slice X9 m9 k9) (i := 1) (HbX6.out.drew.set_ 0 (.slice A9 n c9)) (by decide)) (u := .int .i64 sh) (i := 2) ((HbX6.out.drew.set_ 0 (.slice A9 n c9)).set_ 1 (.slice X9 m9 k9)) (by decide)) (by repeat (first | exact Mor.refl _ | apply Mor.alloc | apply Mor.drew))) hgrow7 (by decide); have hbV7 := Bk.growT (Bk.mor (((HbV6.out.drew.set_other bX 0 (.slice A9 n c9) hVX).set_other bX 1 (.slice X9 m9 k9) hVX).set_other bX 2 (.int .i64 sh) hVX) (by repeat (first | exact Mor.refl _ | apply Mor.alloc | apply Mor.drew))) (own_mor (own_setT (own_setT (own_setT (u := .slice A9 n c9) (i := 0) (own_mor HRow6.out (Mor.refl w6).drew) HbX6.out.drew (by decide)) (u := .slice X9 m9 k9) (i := 1) (HbX6.out.drew.set_ 0 (.slice A9 n c9)) (by decide)) (u := .int .i64 sh) (i := 2) ((HbX6.out.drew.set_ 0 (.slice A9 n c9)).set_ 1 (.slice X9 m9 k9)) (by decide)) (by repeat (first | exact Mor.refl _ | apply Mor.alloc | apply Mor.drew))) hgrow7 (by decide); have hm7 : Mor w3 w7 := own_step (own_mor (own_setT (own_setT (own_setT (u := .slice A9 n c9) (i := 0) (own_mor HRow6.out (Mor.refl w6).drew) HbX6.out.drew (by decide)) (u := .slice X9 m9 k9) (i := 1) (HbX6.out.drew.set_ 0 (.slice A9 n c9)) (by decide)) (u := .int .i64 sh) (i := 2) ((HbX6.out.drew.set_ 0 (.slice A9 n c9)).set_ 1 (.slice X9 m9 k9)) (by decide)) (by repeat (first | exact Mor.refl _ | apply Mor.alloc | apply Mor.drew))) (Mor.trans' (((HM36.out.drew.setC (i := 0) (u := .slice A9 n c9) hwX).setC (i := 1) (u := .slice X9 m9 k9) hwX).setC (i := 2) (u := .int .i64 sh) hwX) (by repeat (first | exact Mor.refl _ | apply Mor.alloc | apply Mor.drew))) hgrow7; have hO7 := OwnB.growlt (OwnB.mor (own3 (a := .slice A9 n c9) (a' := .slice X9 m9 k9) (a'' := .int .i64 sh) (OwnB.mor HO6.out (Mor.refl w6).drew) HbX6.out.drew) (by repeat (first | exact Mor.refl _ | apply Mor.alloc | apply Mor.drew))) hgrow7 (fun g hg => by have := HGr.out g hg; omega); have HX7 := Lib.hid (And.intro hbX7 (And.intro hO7 (And.intro hown7 hm7))); have p0 := hbX7.cell 0; have p1 := hbX7.cell 1; have p2 := hbX7.cell 2; have g0 := hbX7.frozen 0; have g1 := hbX7.frozen 1; have g2 := hbX7.frozen 2; have pl := hbX7.lt; have v0 := hbV7.cell 0; have v1' := hbV7.cell 1; have v2 := hbV7.cell 2; have vl := hbV7.lt; simp at p0 p1 p2 v0 v1' v2; clear hbX7 hbV7 hm7 hO7 hown7 hgrow7))
          all_goals go_simp
          all_goals (go_wp2_with fail)
          all_goals go_roundw
          all_goals first
            | (simp [intOf]; omega)
            | exact ⟨j + 1, cnt + 1, A9, c9, X9, m9, k9, A7, c7, by omega, by omega, by go_num, rfl, Lib.hid ⟨by simpa using HX7.out.1, by rw [HTk.out]; exact Hld.own HX7.out.2.1, by rw [HDk.out]; exact Dn.snoc hql hdl HEn.out HX7.out.2.2.1 HKs.out HLq.out, HX7.out.2.2.2⟩⟩
            | exact ⟨j + 1, cnt + 1, A9, c9, X9, m9, k9, A7, c7, by omega, by omega, by go_num, rfl, Lib.hid ⟨by have := ((HX7.out.1.set_ 0 (.slice A9 n c9)).set_ 1 (.slice X9 m9 k9)).set_ 2 (.int .i64 sh); simpa using this, by rw [HTk.out]; exact (Hld.own HX7.out.2.1).store HX7.out.1, by rw [HDk.out]; exact (Dn.snoc hql hdl HEn.out HX7.out.2.2.1 HKs.out HLq.out).set3 HX7.out.1, ((HX7.out.2.2.2.setC hwX).setC hwX).setC hwX⟩⟩
        · have HP := Lib.hid (fun w' h => HPn.out w' h hc)
          have HSt := Lib.hid (stepb_no hc)
          have hr : (postc bj ⟨ky, dy, ls⟩ == 0) = false := by simpa using hc
          rw [if_neg hc, List.append_nil] at HDk
          generalize postc bj ⟨ky, dy, ls⟩ = r at *
          clear hc HPn HPy
          go_wp2_with fail
          refine (HP.out _ (Mor.refl _).alloc).mono ?_
          rintro e w5 ⟨rfl, hm5⟩
          have HR4 := Lib.hid (HR2.out _ ((Mor.refl _).alloc.trans' hm5))
          clear hm5 HR2
          go_wp2_with fail
          go_roundw
          case rel =>
            obtain ⟨h1, h2, h3, h4⟩ := HR4.out
            exact ⟨j + 1, cnt, A', c', X', m', k', DA, DC, by omega, by omega, by go_num, rfl, Lib.hid ⟨h1.alloc _, by rw [HTk.out, HSt.out]; exact h2.mor (Mor.refl _).alloc, by rw [HDk.out]; exact h3.mor (Mor.refl _).alloc, h4.alloc⟩⟩
          case measure => simp [intOf]; omega
      · obtain rfl : j = P := by omega
        obtain ⟨wL, rfl⟩ : ∃ wL, wL = wr := ⟨_, rfl⟩
        obtain ⟨hbX, hld, hdn, hm⟩ := HR.out
        have hinv := OInv.made HBo.out es j (by rw [HEl.out]; omega)
        have HDm := Lib.hid (donel_made b (es.take j))
        generalize madeb b (es.take j) = xb at *
        generalize donel b (es.take j) = d at *
        have hdl : d.length = cnt := by obtain ⟨_, _, _, h, _⟩ := hdn; exact h
        obtain ⟨DX, DK, hDe, hDc, hD63, hDn, hDes⟩ := hdn.es hm
        have hcnt20 : cnt ≤ 20 := by omega
        have HInv := Lib.hid hinv
        have HDl := Lib.hid hdl
        have HDes := Lib.hid (fun w' (h : Mor wL w') => hDes.mor h)
        injection hDe with g1 _ g3
        subst g1 g3
        have HXr := Lib.hid (fun w' (h : Mor wL w') => And.intro (hbX.mor h) (hld.mor h))
        have HMr := Lib.hid hm
        have HPr := Lib.hid (fun w' (h : Mor wL w') => HP3.out.mor (hm.trans' h))
        have hdm := HDm.out
        clear HDm
        have hc0 : bookc b = 0 := (bookc_iff b).2 HBo.out
        have hsz : (textsB d).size ≤ 6800 := by
          rw [textsB_sz]
          have := texts_le (d := d) (fun x hx => (textT_le (hinv.din x hx).2).1)
          omega
        obtain ⟨S, hS⟩ : ∃ S, S = (textsB d).size := ⟨_, rfl⟩
        obtain ⟨K, hK⟩ : ∃ K : Nat, wi v1 ((S : Int) + 1) = (K : Int) := ⟨(wi v1 ((S : Int) + 1)).toNat, by have := wi_lo v1 ((S : Int) + 1) (by omega); omega⟩
        have hKS : K ≤ S := by
          have h2 := wi_hi v1 ((S : Int) + 1) (by omega)
          rw [hK] at h2; omega
        have HWi := Lib.hid (fun w' => show Calls Tryz.prog 13 #[.int .i64 v1, .int .i64 ((S : Int) + 1)] w' (fun e w'' => e = .returned (.int .i64 (K : Int)) ∧ w' = w'') from by
          have h2 := within_any v1 ((S : Int) + 1) w' (by omega) (by omega)
          rw [hK] at h2
          exact h2)
        obtain ⟨J, r, hJd, hcut, hrn, hJk⟩ := texts_cut d K (fun x hx => (hinv.din x hx).2) (by rw [← textsB_sz, ← hS]; exact hKS)
        have hpost : Posts b (d.take J) := fun i hi => by
          have hi1 : i < J := by rw [List.length_take] at hi; omega
          have hi2 : i < d.length := by rw [List.length_take] at hi; omega
          rw [List.take_take, show min i J = i by omega, ne_eq _ _ hi, List.getElem_take, ← ne_eq _ _ hi2]
          exact hdm.2 i hi2
        have hnc : J ≤ cnt := by omega
        have hbq0 := HB.out
        have HBn := Lib.hid hbq0.ac.length
        have HTx := Lib.hid (fun w' (h : Mor wL w') => text_any DA cnt DC d w' (hDes.mor h) hdl hDc hD63 (by omega) (fun x hx => (hinv.din x hx).2) (HT.out _ (HM3.out.trans' (hm.trans' h))))
        have HTx2 := Lib.hid (fun w' (h : Mor wL w') => text_any DA J DC (d.take J) w' ((Es.take hDes J).mor h) (by rw [List.length_take]; omega) (by omega) hD63 (by omega) (fun x hx => (hinv.din x (List.mem_of_mem_take hx)).2) (HT.out _ (HM3.out.trans' (hm.trans' h))))
        have HR1 := Lib.hid (fun w' (h : Mor wL w') => show Calls Tryz.prog 11 #[bv A n c X m k sh, .string ((textsB d).extract 0 K)] w' (fun e w'' => ∃ A9 c9 X9 m9 k9, e = .returned (.tuple #[bv A9 n c9 X9 m9 k9 sh, .int .i64 J, .int .i64 0]) ∧ OwnB w'' w'.heap.size (.slice A9 n c9) (.slice X9 m9 k9) n m9 (madeb b (d.take J)) ∧ Mor w' w'') from by
          have h1 := replay_ok A n c X m k b ((textsB d).extract 0 K) (d.take J) r w' (hbq0.mor (HM3.out.trans' (hm.trans' h))) hc0 (by
            rw [← hcut, ub_ext, textsB_ub, List.drop_zero, Nat.sub_zero]) (by
            have : ((textsB d).extract 0 K).size ≤ K := by simp; omega
            omega) hrn hpost (by rw [List.length_take]; omega) (HT.out _ (HM3.out.trans' (hm.trans' h)))
          rw [HSh.out, List.length_take, show min J d.length = J by omega] at h1
          refine h1.mono fun e w'' h9 => ?_
          obtain ⟨A9, c9, X9, m9, k9, he, ho, hm9⟩ := h9
          rw [(madeb_ac b (d.take J)).2, HSh.out] at he
          exact ⟨A9, c9, X9, m9, k9, he, ho, hm9⟩)
        have HSB := Lib.hid (fun A8 c8 X8 m8 k8 w4 (hq : Bq w4 A8 n c8 X8 m8 k8 (madeb b (d.take J))) w' (h4 : Mor w4 w') A' c' X' m' k' (hqx : Bq w' A' n c' X' m' k' (madeb b (d.take J))) => show Calls Tryz.prog 12 #[bv A8 n c8 X8 m8 k8 sh, bv A' n c' X' m' k' sh] w' (fun e w'' => e = .returned (.bool true) ∧ Mor w' w'') from by
          have e8 : m8 = m' := by rw [← hq.length, ← hqx.length]
          subst e8
          exact samebook_yes A8 A' n c8 c' X8 X' m8 k8 k' sh (madeb b (d.take J)) w' (hq.mor h4) hqx)
        obtain ⟨T, hT⟩ : ∃ T, T = (textsB (d.take J)).size := ⟨_, rfl⟩
        have hTK : T ≤ K := by rw [hT, textsB_sz]; exact hJk
        have hsame : (textsB d).extract 0 T = textsB (d.take J) := by
          apply ub_inj
          rw [ub_ext, textsB_ub, textsB_ub, List.drop_zero, Nat.sub_zero, hT, textsB_sz]
          exact texts_pre d J
        have HPs := Lib.hid (fun i (hi : i < J) => show postc (madeb b (d.take i)) (ne d i) = 0 from hdm.2 i (by omega))
        have hSN : (textsB d).size = S := hS.symm
        have hTN : (textsB (d.take J)).size = T := hT.symm
        have hS68 : S ≤ 6800 := by omega
        generalize textsB (d.take J) = tB at *
        generalize textsB d = sB at *
        clear HR hld hdn hinv hDes hDn hlt hj hdm hc0 hsz hbq0 hbX hm hpost hcut hrn hJk hS hT hK HXr
        go_wp2_with fail
        refine (HTx.out _ (Mor.refl _)).mono ?_
        rintro e w4 ⟨rfl, hm4⟩
        have HM4 := Lib.hid hm4
        obtain ⟨c0, c1, c2, cl⟩ := HPr.out _ hm4
        clear hm4 HTx
        have hKI : (K : Int) ≤ (S : Int) := by omega
        have hK0 : (0 : Int) ≤ (K : Int) := by omega
        go_wp2_with (go_at_call 13; (with_reducible refine (HWi.out _).mono ?_); rintro e w4b ⟨rfl, rfl⟩)
        have HR4 := Lib.hid (fun w' (h : Mor w4 w') => HR1.out w' (HM4.out.trans' h))
        go_cut [15, 16, 17] (fun s15 s16 s17 wx => s16 = .int .i64 J ∧ Hid (PutY w4 wx sh (madeb b (d.take J)) s17 s15))
        case first =>
          go_region_with (first | (go_at_call 11; (with_reducible refine (HR4.out _ (by repeat (first | exact Mor.refl _ | apply Mor.alloc | apply Mor.more | apply Mor.drewN | apply Mor.drew))).mono ?_); rintro e w5 ⟨A5, c5, X5, m5, k5, rfl, ho5, bs, dr, rfl⟩; have HO5 := Lib.hid ho5; clear ho5))
          all_goals go_simp
          all_goals (go_wp2_with fail)
          all_goals go_meet
          all_goals exact ⟨rfl, Lib.hid (by first | exact putZ_last (w := w4) HO5.out | exact putZ_first (w := w4) HO5.out)⟩
        case rest =>
          obtain ⟨rfl, hcu⟩ := hcut
          obtain ⟨bY, A5, n5, c5, X5, m5, k5, rfl, rfl, hY, ⟨B5, hO5⟩, hM5⟩ := hcu.out
          have hn5 : n5 = n := by rw [← (own_bq hO5).ac.length, (madeb_ac b (d.take J)).1]; exact HBn.out
          subst hn5
          have HY5 := Lib.hid hY
          have HQ5 := Lib.hid (own_bq hO5)
          have HM5 := Lib.hid (HM4.out.trans' hM5)
          have hJ0 : (0 : Int) ≤ (J : Int) := by omega
          have hJc : (J : Int) ≤ (cnt : Int) := by omega
          have hJD : (J : Int) ≤ (DC : Int) := by omega
          clear hY hO5 hM5 hcu HR4 HR1 c0 c1 c2 cl
          go_wp2_with fail
          refine (HTx2.out _ HM5.out).mono ?_
          rintro e w7 ⟨rfl, hm7⟩
          have HY7 := Lib.hid (HY5.out.mor hm7)
          have HM57 := Lib.hid hm7
          have HM7 := Lib.hid (HM5.out.trans' hm7)
          obtain ⟨c0, c1, c2, cl⟩ := HPr.out _ HM7.out
          clear hm7 HTx2 HY5
          have hTI : (T : Int) ≤ (K : Int) := by omega
          have hT0 : (0 : Int) ≤ (T : Int) := by omega
          have hTS : (T : Int) ≤ (S : Int) := by omega
          have HSame := Lib.hid hsame
          clear hsame
          go_wp2_with fail
          have hW8 := Bk.new w7 25 #[.slice A n5 c, .slice X m k, .int .i64 sh]
          have hm78 := (Mor.refl w7).alloc (o := .cells #[.slice A n5 c, .slice X m k, .int .i64 sh] 25)
          obtain ⟨bW, hbW⟩ : ∃ g, g = w7.heap.size := ⟨_, rfl⟩
          rw [← hbW] at hW8 ⊢
          have hwW : w7.heap.size ≤ bW := by omega
          clear hbW c0 c1 c2 cl
          generalize w7.alloc (.cells #[.slice A n5 c, .slice X m k, .int .i64 sh] 25) = w8 at *
          go_loopw [17, 103] (fun e v wr => ∃ (t : Nat) (Aw : Option Addr) (cw : Nat) (Xw : Option Addr) (mw kw : Nat), t ≤ J ∧ e = .int .i64 0 ∧ v = .int .i64 t ∧ Hid (Bk wr bW 25 #[.slice Aw n5 cw, .slice Xw mw kw, .int .i64 sh] ∧ Hld wr A n5 c X m k b Aw cw Xw mw kw (madeb b (d.take t)) ∧ Mor w7 wr)) (fun _ v _ => J - (intOf v).toNat)
          case atStart => exact ⟨0, A, c, X, m, k, Nat.zero_le _, rfl, rfl, Lib.hid ⟨hW8, by rw [List.take_zero]; exact Hld.start, hm78⟩⟩
          case round =>
            clear hW8 hm78
            obtain ⟨t, Aw, cw, Xw, mw, kw, ht, rfl, rfl, HR⟩ := hrel
            obtain ⟨hbW, hld, hms⟩ := HR.out
            by_cases hlt : t < J
            · have hti : (t : Int) < (J : Int) := by omega
              have ht0 : (0 : Int) ≤ (t : Int) := by omega
              have htd : (t : Int) < (DC : Int) := by omega
              obtain ⟨z, A2, n2, c2', hD, hzb, hks, d0, d1, d2, hlq⟩ := (HDes.out _ (HM7.out.trans' hms)).at_ t (by rw [HDl.out]; omega)
              subst hD
              have hbq := hld.bq HB.out (HM3.out.trans' (HMr.out.trans' (HM7.out.trans' hms)))
              have hpc := HPs.out t hlt
              have HTk := Lib.hid (madeb_take b d t (by rw [HDl.out]; omega))
              have hsj : (madeb b (d.take t)).shut = sh := by rw [(madeb_ac b (d.take t)).2, HSh.out]
              have haj := hbq.ac.length
              generalize madeb b (d.take t) = bt at *
              generalize ne d t = en at *
              obtain ⟨ke, de, le⟩ := en
              dsimp only at d0 d1 hks hlq
              have HPo := Lib.hid (fun w' (h : Mor wr w') => show Calls Tryz.prog 9 #[bv Aw n5 cw Xw mw kw sh, .agg #[.string ke, .int .i64 de, .slice A2 n2 c2']] w' (fun e w'' => ∃ A c X m k, e = .returned (.tuple #[bv A n5 c X m k sh, .int .i64 0]) ∧ OwnB w'' w'.heap.size (.slice A n5 c) (.slice X m k) n5 m (stepb bt ⟨ke, de, le⟩) ∧ Mor w' w'') by
                have h3 := post_yes Aw n5 cw Xw mw kw bt ⟨ke, de, le⟩ A2 n2 c2' w' (hbq.mor h) (hlq.mor h) hks hpc
                rw [hsj] at h3
                refine h3.mono fun e w'' h => ?_
                obtain ⟨A9, c9, X9, m9, k9, he, ho, hm9⟩ := postYes_own h (n := n5) (by rw [(post_ac _ _).1]; exact haj)
                rw [(post_ac _ _).2, hsj] at he
                exact ⟨A9, c9, X9, m9, k9, he, by rw [stepb_yes hpc]; exact ho, hm9⟩)
              have HbW := Lib.hid (fun w' (h : Mor wr w') => hbW.mor h)
              have HMs := Lib.hid hms
              have y0 := hbW.cell 0
              have y1 := hbW.cell 1
              have y2 := hbW.cell 2
              have yl := hbW.lt
              simp at y0 y1 y2
              clear hbW hld hms hbq hlq hks hpc hsj haj HR
              go_wp2_with fail
              refine (HPo.out _ (Mor.refl _).alloc).mono ?_
              rintro e w9 ⟨A9, c9, X9, m9, k9, rfl, ho9, hm9⟩
              have hm19 := (Mor.refl wr).alloc.trans' hm9
              have HW9 := Lib.hid (HbW.out _ hm19)
              have HO9 := Lib.hid ho9
              have HM9 := Lib.hid (HMs.out.trans' hm19)
              clear y0 y1 y2 yl hm19 hm9 ho9 HPo HbW d0 d1 d2
              have y0 := HW9.out.cell 0
              have y1 := HW9.out.cell 1
              have y2 := HW9.out.cell 2
              have f0 := HW9.out.frozen 0
              have f1 := HW9.out.frozen 1
              have f2 := HW9.out.frozen 2
              have yl := HW9.out.lt
              simp at y0 y1 y2
              go_wp2_with fail
              go_roundw
              case rel => exact ⟨t + 1, A9, c9, X9, m9, k9, by omega, rfl, by go_num, Lib.hid ⟨by have := ((HW9.out.set_ 0 (.slice A9 n5 c9)).set_ 1 (.slice X9 m9 k9)).set_ 2 (.int .i64 sh); simpa using this, by rw [HTk.out]; exact (Hld.own HO9.out).store HW9.out, ((HM9.out.setC hwW).setC hwW).setC hwW⟩⟩
              case measure => simp [intOf]; omega
            · obtain rfl : t = J := by omega
              have hbq := hld.bq HB.out (HM3.out.trans' (HMr.out.trans' (HM7.out.trans' hms)))
              have HBq := Lib.hid hbq
              have HMs := Lib.hid hms
              have HSame2 := HSame.out
              have hY := HY7.out.mor hms
              have w0' := hbW.cell 0
              have w1' := hbW.cell 1
              have w2' := hbW.cell 2
              have wl := hbW.lt
              have y0 := hY.cell 0
              have y1 := hY.cell 1
              have y2 := hY.cell 2
              have yl := hY.lt
              simp at w0' w1' w2' y0 y1 y2
              clear hbW hld hms hbq hY HR
              go_wp2_with fail
              refine (HSB.out A5 c5 X5 m5 k5 _ HQ5.out _ (HM57.out.trans' HMs.out) Aw cw Xw mw kw HBq.out).mono ?_
              rintro e w10 ⟨rfl, hm10⟩
              go_wp2_with fail
              go_ret
              exact ⟨by simp, (HM3.out.trans' (HMr.out.trans' (HM7.out.trans' (HMs.out.trans' hm10)))).below⟩
  · have hcb : (bookc b != 0) = true := by simpa using hc
    generalize bookc b = r at *
    go_wp2_with fail
    go_ret
    exact ⟨by simp, HM3.out.below⟩

end Go.Proofs.YtnlbhaajpkpemaaGreatDoor.logTorn
