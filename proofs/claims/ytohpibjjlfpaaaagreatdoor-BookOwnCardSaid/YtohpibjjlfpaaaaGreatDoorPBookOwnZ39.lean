/- log.Replay of one written entry, or of nothing, whatever the book (printed by grepc.py). -/
import Derived.Test.YtohpibjjlfpaaaaGreatDoorPBookOwnZ1
import Derived.Test.YtohpibjjlfpaaaaGreatDoorPBookOwnZ2
import Derived.Test.YtohpibjjlfpaaaaGreatDoorPBookOwnZ3
import Derived.Test.YtohpibjjlfpaaaaGreatDoorPBookOwnZ4
import Derived.Test.YtohpibjjlfpaaaaGreatDoorPBookOwnZ5
import Derived.Test.YtohpibjjlfpaaaaGreatDoorPBookOwnZ6
import Derived.Test.YtohpibjjlfpaaaaGreatDoorPBookOwnZ7
import Derived.Test.YtohpibjjlfpaaaaGreatDoorPBookOwnZ8
import Derived.Test.YtohpibjjlfpaaaaGreatDoorPBookOwnZ9
import Derived.Test.YtohpibjjlfpaaaaGreatDoorPBookOwnZ10
import Derived.Test.YtohpibjjlfpaaaaGreatDoorPBookOwnZ11
import Derived.Test.YtohpibjjlfpaaaaGreatDoorPBookOwnZ12
import Derived.Test.YtohpibjjlfpaaaaGreatDoorPBookOwnZ13
import Derived.Test.YtohpibjjlfpaaaaGreatDoorPBookOwnZ14
import Derived.Test.YtohpibjjlfpaaaaGreatDoorPBookOwnZ15
import Derived.Test.YtohpibjjlfpaaaaGreatDoorPBookOwnZ16
import Derived.Test.YtohpibjjlfpaaaaGreatDoorPBookOwnZ17
import Derived.Test.YtohpibjjlfpaaaaGreatDoorPBookOwnZ18
import Derived.Test.YtohpibjjlfpaaaaGreatDoorPBookOwnZ19
import Derived.Test.YtohpibjjlfpaaaaGreatDoorPBookOwnZ20
import Derived.Test.YtohpibjjlfpaaaaGreatDoorPBookOwnZ21
import Derived.Test.YtohpibjjlfpaaaaGreatDoorPBookOwnZ22
import Derived.Test.YtohpibjjlfpaaaaGreatDoorPBookOwnZ23
import Derived.Test.YtohpibjjlfpaaaaGreatDoorPBookOwnZ24
import Derived.Test.YtohpibjjlfpaaaaGreatDoorPBookOwnZ25
import Derived.Test.YtohpibjjlfpaaaaGreatDoorPBookOwnZ26
import Derived.Test.YtohpibjjlfpaaaaGreatDoorPBookOwnZ27
import Derived.Test.YtohpibjjlfpaaaaGreatDoorPBookOwnZ28
import Derived.Test.YtohpibjjlfpaaaaGreatDoorPBookOwnZ29
import Derived.Test.YtohpibjjlfpaaaaGreatDoorPBookOwnZ30
import Derived.Test.YtohpibjjlfpaaaaGreatDoorPBookOwnZ31
import Derived.Test.YtohpibjjlfpaaaaGreatDoorPBookOwnZ32
import Derived.Test.YtohpibjjlfpaaaaGreatDoorPBookOwnZ33
import Derived.Test.YtohpibjjlfpaaaaGreatDoorPBookOwnZ34
import Derived.Test.YtohpibjjlfpaaaaGreatDoorPBookOwnZ35
import Derived.Test.YtohpibjjlfpaaaaGreatDoorPBookOwnZ36
import Derived.Test.YtohpibjjlfpaaaaGreatDoorPBookOwnZ37
import Derived.Test.YtohpibjjlfpaaaaGreatDoorPBookOwnZ38
import Derived.Test.YtohpibjjlfpaaaaGreatDoorRows
import Derived.BigQuiet
import Derived.BigRegion
import Derived.Carry
import Derived.DataElems
import Derived.Deep.DeepCutAuto
import Derived.Deep.LoopGhost
import Derived.Deep.OwnRows
import Derived.Deep.QuietTactic
import Derived.Deep.RegionHeld3
import Derived.Deep.RegionLaw
import Derived.Deep.RegionWith
import Derived.Deep.SlicePairs
import Derived.Deep.Slices
import Derived.Deep.Strs
import Derived.Handy
import Derived.IntWalk
import Derived.Laws.AppendOwn
import Derived.Laws.BytesArg
import Derived.Laws.CopyOwn
import Derived.Laws.CopyRow
import Derived.Laws.Cover1
import Derived.Laws.Externs
import Derived.Laws.NewBlocks
import Derived.Laws.OwnMore
import Derived.Laws.StandIn
import Derived.Lib.AppendZerosOnto
import Derived.Lib.AtoiAll
import Derived.Lib.AtoiTie
import Derived.Lib.Bytealg
import Derived.Lib.CutLaws
import Derived.Lib.Hide
import Derived.Lib.ItoaLen
import Derived.Lib.ItoaNum
import Derived.Lib.LaidTab
import Derived.Lib.LastIndexLaws
import Derived.Lib.Overlaps
import Derived.Lib.SliceRun
import Derived.Lib.SplitLaws
import Derived.Lib.Walk
import Derived.Maps.Own
import Derived.Maps.OwnSet
import Derived.Maps.Views
import Derived.OpenShut
import Derived.Outline
import Derived.OwnWalk
import Derived.PlainAid
import Derived.ProofKit
import Derived.RegionTactic
import Derived.Shelf.Abstract
import Derived.Shelf.LaysC
import Derived.Shelf.LaysM
import Derived.Shelf.RegionOpenPlain
import Derived.Shelf.Small.Strs
import Derived.Shelf.Strconv.Atoi
import Derived.Shelf.Strconv.AtoiAll
import Derived.Shelf.Strconv.AtoiErrFast
import Derived.Shelf.Strconv.AtoiFail
import Derived.Shelf.Strconv.AtoiInnerAll
import Derived.Shelf.Strconv.AtoiLong
import Derived.Shelf.Strconv.Clone
import Derived.Shelf.Strconv.ErrVarAll
import Derived.Shelf.Strconv.Itoa0
import Derived.Shelf.Strconv.Itoa1
import Derived.Shelf.Strconv.Itoa2
import Derived.Shelf.Strconv.Itoa3
import Derived.Shelf.Strconv.Lower
import Derived.Shelf.Strconv.ParseInt10
import Derived.Shelf.Strconv.ParseIntEmpty
import Derived.Shelf.Strconv.ParseUint10
import Derived.Shelf.Strconv.ParseUint10Any
import Derived.Shelf.Strconv.ParseUint10Empty
import Derived.Shelf.Strconv.RangeError
import Derived.Shelf.Strconv.SyntaxError
import Derived.Shelf.Strconv.ToError
import Derived.Shelf.Strconv.ToErrorRange
import Derived.Shelf.Strings.Builder1
import Derived.Shelf.Strings.BuilderF
import Derived.Shelf.Strings.BuilderK
import Derived.Shelf.Strings.Count
import Derived.Shelf.Strings.Cut
import Derived.Shelf.Strings.Explode
import Derived.Shelf.Strings.LastIndex
import Derived.Shelf.Strings.LastIndexAll
import Derived.Shelf.Strings.RuneCount
import Derived.Shelf.Strings.Search1
import Derived.Shelf.Strings.Search2
import Derived.Shelf.Strings.Search3
import Derived.Shelf.Strings.Shaped
import Derived.Shelf.Strings.Split
import Derived.Shelf.Strings.SplitShaped
import Derived.Shelf.Unicode.Decode
import Derived.Shelf.Unicode.DecodeAny
import Derived.Shelf.Unicode.DecodeSlow
import Derived.Shelf.Utf8.RuneCount
import Derived.Sort.Walk0
import Derived.StringKeys
import Derived.WalkKit
import Derived.WalkSpells
namespace Go.Proofs.YtohpibjjlfpaaaaGreatDoor
open Go.ChangeShapes Go.WideShapes Go.ChangeAt Go.RowKit Go.PlainAid
set_option linter.unusedVariables false
set_option maxRecDepth 100000

def RepNo (w : World) (r : Int) (e : Ending) (w' : World) : Prop := e = .returned (.tuple #[bv none 0 0 none 0 0 0, .int .i64 0, .int .i64 r]) ∧ Mor w w'

set_option maxRecDepth 100000 in
set_option maxHeartbeats 1600000 in
theorem replay_bad1 (A : Option Addr) (n c : Nat) (X : Option Addr) (m k : Nat) (b : Bok) (s : ByteArray) (w : World) (hb : Bq w A n c X m k b) (hc : bookc b ≠ 0) :
    Calls Tryz.prog 17 #[bv A n c X m k b.shut, .string s] w (RepNo w (bookc b)) := by
  have HCk := Lib.hid (fun w' (h : Mor w w') => bcheck_any A n c X m k b w' (hb.mor h))
  have hb2 : (bookc b != 0) = true := by simpa using hc
  generalize b.shut = sh at *
  generalize bookc b = r at *
  clear hb
  go_enter Tryz.func17, Tryz.ntmps17
  go_wp2_with fail
  have hM0 := ((Mor.refl w).alloc (o := .cells #[.slice A n c, .slice X m k, .int .i64 sh] 25)).alloc (o := .cells #[.slice none 0 0, .slice none 0 0, .int .i64 0] 25)
  have hbP0 := (Bk.new w 25 #[.slice A n c, .slice X m k, .int .i64 sh]).alloc (.cells #[.slice none 0 0, .slice none 0 0, .int .i64 0] 25)
  have hbR0 := Bk.new (w.alloc (.cells #[.slice A n c, .slice X m k, .int .i64 sh] 25)) 25 #[.slice none 0 0, .slice none 0 0, .int .i64 0]
  rw [← sz1] at hbR0
  obtain ⟨bP, hgP⟩ : ∃ g, g = w.heap.size := ⟨_, rfl⟩
  rw [← hgP] at hbP0 hbR0 ⊢
  obtain ⟨bR, hgR⟩ : ∃ g, g = bP + 1 := ⟨_, rfl⟩
  rw [← hgR] at hbR0 ⊢
  generalize (w.alloc (.cells #[.slice A n c, .slice X m k, .int .i64 sh] 25)).alloc (.cells #[.slice none 0 0, .slice none 0 0, .int .i64 0] 25) = w0 at *
  have hgPw : w.heap.size ≤ bP := by omega
  have hgRw : w.heap.size ≤ bR := by omega
  have hPR : bP ≠ bR := by omega
  have hRP : bR ≠ bP := by omega
  have HP := Lib.hid (fun w' (h : Mor w0 w') => hbP0.mor h)
  have HR := Lib.hid (fun w' (h : Mor w0 w') => hbR0.mor h)
  have HM0 := Lib.hid hM0
  clear hgP hgR hM0 hbP0 hbR0
  refine (HCk.out _ HM0.out).mono ?_
  rintro e w2 ⟨rfl, hm⟩
  have HM2 := Lib.hid hm
  clear hm
  have hR := HR.out _ HM2.out
  have f0 := hR.frozen 0
  have f1 := hR.frozen 1
  have f2 := hR.frozen 2
  have r0 := hR.cell 0
  have r1 := hR.cell 1
  have r2 := hR.cell 2
  have rl := hR.lt
  simp at r0 r1 r2
  have HRx := Lib.hid hR
  have HMx := Lib.hid (HM0.out.trans' HM2.out)
  clear hR
  go_wp2_with fail
  have hb9 := ((HRx.out.set_ 0 (.slice none 0 0)).set_ 1 (.slice none 0 0)).set_ 2 (.int .i64 0)
  simp only [List.setIfInBounds_toArray, List.set_cons_zero, List.set_cons_succ] at hb9
  have hm9 := ((HMx.out.setC (i := 0) (u := .slice none 0 0) hgRw).setC (i := 1) (u := .slice none 0 0) hgRw).setC (i := 2) (u := .int .i64 0) hgRw
  have q0 := hb9.cell 0
  have q1 := hb9.cell 1
  have q2 := hb9.cell 2
  simp at q0 q1 q2
  refine bodyPost_ret (v := .tuple #[bv none 0 0 none 0 0 0, .int .i64 0, .int .i64 r]) (by simp [results, Tryz.results17, go_sem, q0, q1, q2]; try rfl) rfl ?_
  exact ⟨rfl, hm9⟩

set_option maxHeartbeats 3200000 in
theorem replay_post (A : Option Addr) (n c : Nat) (X : Option Addr) (m k : Nat) (b : Bok) (s : ByteArray) (x : En) (w : World) (hb : Bq w A n c X m k b) (hc : bookc b = 0) (he : enc x = 0) (hs : ub s = textT x) (hp : postc b x ≠ 0) (hks : x.key.size ≤ maxLen) (ht : Tb w) :
    Calls Tryz.prog 17 #[bv A n c X m k b.shut, .string s] w (RepNo w (postc b x)) := by
  have hz : s.size ≤ 20000 := by have h1 := ub_len s; have h2 := (textT_le he).1; rw [hs] at h1; omega
  have hz2 : 2 ≤ s.size := by have h1 := ub_len s; have h2 := (textT_le he).2; rw [hs] at h1; omega
  have hbo := (bookc_iff b).1 hc
  have HCk := Lib.hid (fun w' (h : Mor w w') => show Calls Tryz.prog 33 #[bv A n c X m k b.shut] w' (fun e w2 => e = .returned (.int .i64 0) ∧ Mor w' w2) from by have := bcheck_any A n c X m k b w' (hb.mor h); rw [hc] at this; exact this)
  have hnl := hb.ac.length
  have hml := hb.length
  have hn24 := acc_len hbo.ac
  have hm60 := hbo.len
  have HCo := Lib.hid (fun w' (h : Mor w w') => show Calls Tryz.prog 45 #[bv A n c X m k b.shut] w' (fun e w2 => ∃ A2 c2 X2 k2, e = .returned (bv A2 n c2 X2 m k2 b.shut) ∧ OwnB w2 w'.heap.size (.slice A2 n c2) (.slice X2 m k2) n m b ∧ Mor w' w2) from
    (copied_any A n c X m k b w' (hb.mor h) (by omega) (by omega) (fun y hy => by have := (linec_ok (entc_ok (hbo.enc y hy)).2.2.2).1; omega)).mono (by
      rintro e w2 ⟨vA, vX, rfl, ho, hm⟩
      obtain ⟨A2, c2, X2, k2, rfl, rfl, _⟩ := ho.bq
      exact ⟨A2, c2, X2, k2, rfl, ho, hm⟩))
  have HBsh := Lib.hid (rfl : b.shut = b.shut)
  generalize hsh : b.shut = sh at *
  have hzi : decide ((20000 : Int) < (s.size : Int)) = false := decide_eq_false (by omega)
  have HT := Lib.hid (fun w' (h : Mor w w') => ht.mor h)
  have HB := Lib.hid hb
  clear hb ht
  go_enter Tryz.func17, Tryz.ntmps17
  go_wp2_with fail
  have hM0 := ((Mor.refl w).alloc (o := .cells #[.slice A n c, .slice X m k, .int .i64 sh] 25)).alloc (o := .cells #[.slice none 0 0, .slice none 0 0, .int .i64 0] 25)
  have hbP0 := (Bk.new w 25 #[.slice A n c, .slice X m k, .int .i64 sh]).alloc (.cells #[.slice none 0 0, .slice none 0 0, .int .i64 0] 25)
  have hbR0 := Bk.new (w.alloc (.cells #[.slice A n c, .slice X m k, .int .i64 sh] 25)) 25 #[.slice none 0 0, .slice none 0 0, .int .i64 0]
  rw [← szA] at hbR0
  obtain ⟨bP, hgP⟩ : ∃ g, g = w.heap.size := ⟨_, rfl⟩
  rw [← hgP] at hbP0 hbR0 ⊢
  obtain ⟨bR, hgR⟩ : ∃ g, g = bP + 1 := ⟨_, rfl⟩
  rw [← hgR] at hbR0 ⊢
  generalize (w.alloc (.cells #[.slice A n c, .slice X m k, .int .i64 sh] 25)).alloc (.cells #[.slice none 0 0, .slice none 0 0, .int .i64 0] 25) = w0 at *
  have hgRw : w.heap.size ≤ bR := by omega
  have hPR : bP ≠ bR := by omega
  have hRP : bR ≠ bP := by omega
  clear hgP hgR
  refine (HCk.out _ hM0).mono ?_
  rintro e w1 ⟨rfl, hm1⟩
  have hbP := hbP0.mor hm1
  have HR1 := Lib.hid (hbR0.mor hm1)
  have HM1 := Lib.hid (hM0.trans' hm1)
  have HP1 := Lib.hid hbP
  have c0 := hbP.cell 0
  have c1 := hbP.cell 1
  have c2 := hbP.cell 2
  have cl := hbP.lt
  simp at c0 c1 c2
  clear hM0 hbP0 hbR0 hm1 hbP
  go_wp2_with fail
  refine (HCo.out _ HM1.out).mono ?_
  rintro e w2 ⟨A2, c2', X2, k2, rfl, ho2, hm2⟩
  have HO2 := Lib.hid ho2
  have HM2 := Lib.hid (HM1.out.trans' hm2)
  have HR2 := Lib.hid (HR1.out.mor hm2)
  clear ho2 hm2 c0 c1 c2 cl HP1 HR1
  go_wp2_with fail
  have hO3 := Bk.new w2 25 #[.slice A2 n c2', .slice X2 m k2, .int .i64 sh]
  have hm23 := (Mor.refl w2).alloc (o := .cells #[.slice A2 n c2', .slice X2 m k2, .int .i64 sh] 25)
  obtain ⟨bO, hgO⟩ : ∃ g, g = w2.heap.size := ⟨_, rfl⟩
  rw [← hgO] at hO3 ⊢
  have hRO : bR < bO := by rw [hgO]; exact HR2.out.lt
  have hgOw : w.heap.size ≤ bO := by rw [hgO]; exact HM2.out.below.size
  clear hgO
  have hOO3 := (HO2.out.mor hm23).low HM1.out.below.size
  have hR3 := HR2.out.mor hm23
  have hM3 := HM2.out.trans' hm23
  clear HO2 HR2 hm23
  generalize w2.alloc (.cells #[.slice A2 n c2', .slice X2 m k2, .int .i64 sh] 25) = w3 at *
  clear HM2
  have HS0 := Lib.hid hsh
  have hzz : ∃ y : Nat, y = s.size := ⟨_, rfl⟩
  go_loopw [1, 9] (fun v i wr => v = .string s ∧ i = .int .i64 0 ∧ wr = w3) (fun _ _ _ => 0)
  case atStart => exact ⟨rfl, rfl, rfl⟩
  case round =>
    obtain ⟨rfl, rfl, rfl⟩ := hrel
    have o0 := hO3.cell 0
    have o1 := hO3.cell 1
    have o2 := hO3.cell 2
    have ol := hO3.lt
    simp at o0 o1 o2
    obtain ⟨ra, rb, rg⟩ := read_text he (s := s) (r := []) (by rw [List.append_nil]; exact hs)
    have hbq := own_bq hOO3
    have HTw := Lib.hid (HT.out _ hM3)
    have HRd := Lib.hid (fun w' (g : Mor wr w') => show Calls Tryz.prog 53 #[.string s] w' (fun e w'' => RY w' x.key x.day x.ls ((textT x).length : Nat) e w'') from
      (read_any s w' (by unfold maxLen; omega) (by unfold rdL; simp; omega) (HTw.out.mor g)).mono (by
        rintro e w'' (⟨_, _, _, _, hy⟩ | ⟨hn, _⟩)
        · rw [rb, rg] at hy; exact hy
        · exact absurd ra hn))
    generalize hu : (textT x).length = u at *
    have hu1 : (u : Int) ≤ (s.size : Int) := by have h1 := ub_len s; rw [hs] at h1; omega
    have hu0 : (0 : Int) ≤ (u : Int) := by omega
    have hpb : (postc b x != 0) = true := by simpa using hp
    have HPo := Lib.hid (fun A9 m9 c9 w4 (hq : Lq w4 A9 m9 c9 x.ls) w' (g : Mor wr w') (g4 : Mor w4 w') => show Calls Tryz.prog 12 #[bv A2 n c2' X2 m k2 sh, .agg #[.string x.key, .int .i64 x.day, .slice A9 m9 c9]] w' (PostNo w' (postc b x)) from by
      have h3 := post_no A2 n c2' X2 m k2 b x A9 m9 c9 w' (hbq.mor g) (hq.mor g4) hks hp
      rw [HS0.out] at h3
      exact h3)
    have hne : (s.toList == []) = false := by
      rw [ByteArray.toList_eq]
      refine beq_eq_false_iff_ne.2 (show ub s ≠ [] from fun e => ?_)
      have h9 := ub_len s
      rw [e] at h9
      simp at h9
      omega
    generalize postc b x = r at *
    obtain ⟨ky, dy, ls⟩ := x
    have HO3 := Lib.hid hO3
    have HR3 := Lib.hid hR3
    have HM3 := Lib.hid hM3
    clear ra rb rg hu hbq hO3 hR3 hOO3 hM3 he hs hp hks
    go_wp2_with fail
    refine (HRd.out _ (Mor.refl _)).mono ?_
    rintro e w4 ⟨A9, m9, c9, rfl, ⟨hq, -⟩, hm4⟩
    have HO4 := Lib.hid (HO3.out.mor hm4)
    have HR4 := Lib.hid (HR3.out.mor hm4)
    have HM4 := Lib.hid hm4
    have HQ4 := Lib.hid hq
    have hO4 := HO3.out.mor hm4
    clear o0 o1 o2 ol hq HRd
    have o0 := hO4.cell 0
    have o1 := hO4.cell 1
    have o2 := hO4.cell 2
    have f0 := hO4.frozen 0
    have f1 := hO4.frozen 1
    have f2 := hO4.frozen 2
    have ol := hO4.lt
    simp at o0 o1 o2
    clear hO4 hm4
    go_wp2_with fail
    refine (HPo.out A9 m9 c9 w4 HQ4.out _ HM4.out.alloc (Mor.refl _).alloc).mono ?_
    rintro e w6 ⟨rfl, hm6⟩
    have hm46 := (Mor.refl w4).alloc.trans' hm6
    have HO6 := Lib.hid (HO4.out.mor hm46)
    have HR6 := Lib.hid (HR4.out.mor hm46)
    have HM6 := Lib.hid (HM3.out.trans' (HM4.out.trans' hm46))
    clear o0 o1 o2 f0 f1 f2 ol hm46 hm6
    have o0 := HO6.out.cell 0
    have o1 := HO6.out.cell 1
    have o2 := HO6.out.cell 2
    have f0 := HO6.out.frozen 0
    have f1 := HO6.out.frozen 1
    have f2 := HO6.out.frozen 2
    have ol := HO6.out.lt
    have r0 := HR6.out.cell 0
    have r1 := HR6.out.cell 1
    have r2 := HR6.out.cell 2
    have g0 := HR6.out.frozen 0
    have g1 := HR6.out.frozen 1
    have g2 := HR6.out.frozen 2
    have gl := HR6.out.lt
    simp at o0 o1 o2 r0 r1 r2
    have hRO' : bO ≠ bR := by omega
    have hRO2 : bR ≠ bO := by omega
    go_wp2_with fail
    have hb8 := ((HR6.out.set_other bO 0 (.slice none 0 0) (by omega)).set_other bO 1 (.slice none 0 0) (by omega)).set_other bO 2 (.int .i64 0) (by omega)
    have hb9 := ((hb8.set_ 0 (.slice none 0 0)).set_ 1 (.slice none 0 0)).set_ 2 (.int .i64 0)
    simp only [List.setIfInBounds_toArray, List.set_cons_zero, List.set_cons_succ] at hb9
    have hm8 := ((HM6.out.setC' (i := 0) (u := .slice none 0 0) hgOw).setC' (i := 1) (u := .slice none 0 0) hgOw).setC' (i := 2) (u := .int .i64 0) hgOw
    have hm9 := ((hm8.setC' (i := 0) (u := .slice none 0 0) hgRw).setC' (i := 1) (u := .slice none 0 0) hgRw).setC' (i := 2) (u := .int .i64 0) hgRw
    have q0 := hb9.cell 0
    have q1 := hb9.cell 1
    have q2 := hb9.cell 2
    simp at q0 q1 q2
    refine bodyPost_ret (v := .tuple #[bv none 0 0 none 0 0 0, .int .i64 0, .int .i64 r]) (by simp [results, Tryz.results17, go_sem, q0, q1, q2]; try rfl) rfl ?_
    exact ⟨rfl, hm9⟩

/-- a book of the call's own, and two numbers -/
def NewB3 (w : World) (e : Ending) (w' : World) : Prop :=
  ∃ A n c X m k r r', ∃ y : Bok, e = .returned (.tuple #[bv A n c X m k y.shut, .int .i64 r, .int .i64 r']) ∧ OwnB w' w.heap.size (.slice A n c) (.slice X m k) n m y ∧ Few y ∧ Mor w w'
theorem newb3_no {w w' : World} {r : Int} {e : Ending} (h : RepNo w r e w') : NewB3 w e w' := ⟨none, 0, 0, none, 0, 0, 0, r, zeroB, h.1, own_zero _ _, few_zero, h.2⟩
theorem newb3_yes {w w' : World} {n N : Nat} {b : Bok} {e : Ending} (h : RepPost w n b N e w') (hb : Few b) : NewB3 w e w' := by
  obtain ⟨A, c, X, m, k, h1, h2, h3⟩ := h
  exact ⟨A, n, c, X, m, k, N, 0, b, h1, h2, hb, h3⟩
theorem replay_newb (A : Option Addr) (n c : Nat) (X : Option Addr) (m k : Nat) (b : Bok) (x : En) (w : World) (hb : Bq w A n c X m k b) (hks : x.key.size ≤ maxLen) (ht : Tb w) :
    Calls Tryz.prog 17 #[bv A n c X m k b.shut, .string (wrT x)] w (NewB3 w) := by
  by_cases h1 : bookc b = 0
  · have hB := (bookc_iff b).1 h1
    by_cases h2 : enc x = 0
    · have hs : ub (wrT x) = textT x := by rw [wrT_ok h2]; exact textB_ub x
      by_cases h3 : postc b x = 0
      · refine (replay_ok A n c X m k b (wrT x) [x] [] w hb h1 (by rw [hs]; simp [texts]) (by have e1 := ub_len (wrT x); have e2 := (textT_le h2).1; rw [hs] at e1; omega) (fun y hy => by simp at hy) ?_ (by simp) ht).mono fun e w' h => newb3_yes h (madeb_ok hB _).few
        intro i hi
        obtain rfl : i = 0 := by simp at hi; omega
        exact h3
      · exact (replay_post A n c X m k b (wrT x) x w hb h1 h2 hs h3 hks ht).mono fun e w' h => newb3_no h
    · refine (replay_ok A n c X m k b (wrT x) [] [] w hb h1 (by rw [wrT_no h2]; rfl) (by rw [wrT_no h2]; exact Nat.zero_le _) (fun y hy => by simp at hy) (fun i hi => absurd hi (Nat.not_lt_zero _)) (Nat.zero_le _) ht).mono fun e w' h => newb3_yes h (madeb_ok hB _).few
  · exact (replay_bad1 A n c X m k b (wrT x) w hb h1).mono fun e w' h => newb3_no h

end Go.Proofs.YtohpibjjlfpaaaaGreatDoor
