/- The walk of talkeep.BookOwn. -/
import Derived.Test.YtohpibjjlfpaaaaGreatDoorPBookOwnZ1
import Derived.Test.YtohpibjjlfpaaaaGreatDoorPBookOwnZ2
import Derived.Test.YtohpibjjlfpaaaaGreatDoorPBookOwnZ3
import Derived.Test.YtohpibjjlfpaaaaGreatDoorPBookOwnZ4
import Derived.Test.YtohpibjjlfpaaaaGreatDoorPBookOwnZ5
import Derived.Test.YtohpibjjlfpaaaaGreatDoorPBookOwnZ6
import Derived.Test.YtohpibjjlfpaaaaGreatDoorPBookOwnZ7
import Derived.Test.YtohpibjjlfpaaaaGreatDoorPBookOwnZ8
import Derived.Test.YtohpibjjlfpaaaaGreatDoorPBookOwnZ9
import Derived.Test.YtohpibjjlfpaaaaGreatDoorPBookOwnZ10
import Derived.Test.YtohpibjjlfpaaaaGreatDoorPBookOwnZ11
import Derived.Test.YtohpibjjlfpaaaaGreatDoorPBookOwnZ12
import Derived.Test.YtohpibjjlfpaaaaGreatDoorPBookOwnZ13
import Derived.Test.YtohpibjjlfpaaaaGreatDoorPBookOwnZ14
import Derived.Test.YtohpibjjlfpaaaaGreatDoorPBookOwnZ15
import Derived.Test.YtohpibjjlfpaaaaGreatDoorPBookOwnZ16
import Derived.Test.YtohpibjjlfpaaaaGreatDoorPBookOwnZ17
import Derived.Test.YtohpibjjlfpaaaaGreatDoorPBookOwnZ18
import Derived.Test.YtohpibjjlfpaaaaGreatDoorPBookOwnZ19
import Derived.Test.YtohpibjjlfpaaaaGreatDoorPBookOwnZ20
import Derived.Test.YtohpibjjlfpaaaaGreatDoorPBookOwnZ21
import Derived.Test.YtohpibjjlfpaaaaGreatDoorPBookOwnZ22
import Derived.Test.YtohpibjjlfpaaaaGreatDoorPBookOwnZ23
import Derived.Test.YtohpibjjlfpaaaaGreatDoorPBookOwnZ24
import Derived.Test.YtohpibjjlfpaaaaGreatDoorPBookOwnZ25
import Derived.Test.YtohpibjjlfpaaaaGreatDoorPBookOwnZ26
import Derived.Test.YtohpibjjlfpaaaaGreatDoorPBookOwnZ27
import Derived.Test.YtohpibjjlfpaaaaGreatDoorPBookOwnZ28
import Derived.Test.YtohpibjjlfpaaaaGreatDoorPBookOwnZ29
import Derived.Test.YtohpibjjlfpaaaaGreatDoorPBookOwnZ30
import Derived.Test.YtohpibjjlfpaaaaGreatDoorPBookOwnZ31
import Derived.Test.YtohpibjjlfpaaaaGreatDoorPBookOwnZ32
import Derived.Test.YtohpibjjlfpaaaaGreatDoorPBookOwnZ33
import Derived.Test.YtohpibjjlfpaaaaGreatDoorPBookOwnZ34
import Derived.Test.YtohpibjjlfpaaaaGreatDoorPBookOwnZ35
import Derived.Test.YtohpibjjlfpaaaaGreatDoorPBookOwnZ36
import Derived.Test.YtohpibjjlfpaaaaGreatDoorPBookOwnZ37
import Derived.Test.YtohpibjjlfpaaaaGreatDoorPBookOwnZ38
import Derived.Test.YtohpibjjlfpaaaaGreatDoorPBookOwnZ39
import Derived.Test.YtohpibjjlfpaaaaGreatDoorPBookOwnZ40
import Derived.Test.YtohpibjjlfpaaaaGreatDoorPBookOwnZ41
import Derived.Test.YtohpibjjlfpaaaaGreatDoorPBookOwnZ42
import Derived.Test.YtohpibjjlfpaaaaGreatDoorPBookOwnZ43
import Derived.Test.YtohpibjjlfpaaaaGreatDoorPBookOwnZ44
import Derived.Test.YtohpibjjlfpaaaaGreatDoorPBookOwnZ45
import Derived.Test.YtohpibjjlfpaaaaGreatDoorPBookOwnZ46
import Derived.Test.YtohpibjjlfpaaaaGreatDoorPBookOwnZ47
import Derived.Test.YtohpibjjlfpaaaaGreatDoorPBookOwnZ48
import Derived.Test.YtohpibjjlfpaaaaGreatDoorPBookOwnZ49
import Derived.Test.YtohpibjjlfpaaaaGreatDoorPBookOwnZ50
import Derived.Test.YtohpibjjlfpaaaaGreatDoorCards
import Derived.Test.YtohpibjjlfpaaaaGreatDoorRows
import Derived.BigQuiet
import Derived.BigRegion
import Derived.Carry
import Derived.DataElems
import Derived.Deep.AppendSrc
import Derived.Deep.DeepAppendRoom
import Derived.Deep.DeepCutAuto
import Derived.Deep.DeepLaidRun
import Derived.Deep.LoopGhost
import Derived.Deep.OwnRows
import Derived.Deep.QuietTactic
import Derived.Deep.RegionHeld3
import Derived.Deep.RegionLaw
import Derived.Deep.RegionWith
import Derived.Deep.SlicePairs
import Derived.Deep.Slices
import Derived.Deep.Strs
import Derived.Handy
import Derived.IntWalk
import Derived.LaidLaws
import Derived.Laws.AppendOwn
import Derived.Laws.BytesArg
import Derived.Laws.CopyOwn
import Derived.Laws.CopyRow
import Derived.Laws.Cover1
import Derived.Laws.Externs
import Derived.Laws.NewBlocks
import Derived.Laws.OwnMore
import Derived.Laws.StandIn
import Derived.Lib.AppendZerosOnto
import Derived.Lib.AtoiAll
import Derived.Lib.AtoiTie
import Derived.Lib.Bytealg
import Derived.Lib.CutLaws
import Derived.Lib.Hide
import Derived.Lib.ItoaLen
import Derived.Lib.ItoaNum
import Derived.Lib.LaidTab
import Derived.Lib.LastIndexLaws
import Derived.Lib.Overlaps
import Derived.Lib.SliceRun
import Derived.Lib.SplitLaws
import Derived.Lib.Walk
import Derived.Maps.Own
import Derived.Maps.OwnSet
import Derived.Maps.Views
import Derived.OpenShut
import Derived.Outline
import Derived.OwnWalk
import Derived.PlainAid
import Derived.ProofKit
import Derived.RegionTactic
import Derived.RowKit3
import Derived.Shelf.Abstract
import Derived.Shelf.LaysC
import Derived.Shelf.LaysM
import Derived.Shelf.RegionOpenPlain
import Derived.Shelf.Small.Strs
import Derived.Shelf.Strconv.Atoi
import Derived.Shelf.Strconv.AtoiAll
import Derived.Shelf.Strconv.AtoiErrFast
import Derived.Shelf.Strconv.AtoiFail
import Derived.Shelf.Strconv.AtoiInnerAll
import Derived.Shelf.Strconv.AtoiLong
import Derived.Shelf.Strconv.Clone
import Derived.Shelf.Strconv.ErrVarAll
import Derived.Shelf.Strconv.Itoa0
import Derived.Shelf.Strconv.Itoa1
import Derived.Shelf.Strconv.Itoa2
import Derived.Shelf.Strconv.Itoa3
import Derived.Shelf.Strconv.Lower
import Derived.Shelf.Strconv.ParseInt10
import Derived.Shelf.Strconv.ParseIntEmpty
import Derived.Shelf.Strconv.ParseUint10
import Derived.Shelf.Strconv.ParseUint10Any
import Derived.Shelf.Strconv.ParseUint10Empty
import Derived.Shelf.Strconv.RangeError
import Derived.Shelf.Strconv.SyntaxError
import Derived.Shelf.Strconv.ToError
import Derived.Shelf.Strconv.ToErrorRange
import Derived.Shelf.Strings.Builder1
import Derived.Shelf.Strings.BuilderF
import Derived.Shelf.Strings.BuilderK
import Derived.Shelf.Strings.Count
import Derived.Shelf.Strings.Cut
import Derived.Shelf.Strings.Explode
import Derived.Shelf.Strings.LastIndex
import Derived.Shelf.Strings.LastIndexAll
import Derived.Shelf.Strings.RuneCount
import Derived.Shelf.Strings.Search1
import Derived.Shelf.Strings.Search2
import Derived.Shelf.Strings.Search3
import Derived.Shelf.Strings.Shaped
import Derived.Shelf.Strings.Split
import Derived.Shelf.Strings.SplitShaped
import Derived.Shelf.Unicode.Decode
import Derived.Shelf.Unicode.DecodeAny
import Derived.Shelf.Unicode.DecodeSlow
import Derived.Shelf.Utf8.RuneCount
import Derived.Shelf.Vars
import Derived.Sort.Walk0
import Derived.Stop.LaidErr
import Derived.StringKeys
import Derived.WalkKit
import Derived.WalkSpells
import GoSem.PinnedTables
namespace Go.Proofs.YtohpibjjlfpaaaaGreatDoor.bookOwn
open Go.ChangeShapes Go.WideShapes Go.ChangeAt Go.RowKit Go.PlainAid
set_option linter.unusedVariables false
set_option maxRecDepth 100000

abbrev mkP : List Value := [.string { data := #[109, 97, 114, 107] }, .int .i64 0, .int .i64 0, .int .i64 0, .int .i64 0, .string { data := #[] }, .string { data := #[] }]

set_option maxRecDepth 100000 in
set_option maxHeartbeats 3200000 in
theorem bookOwn_walk (w : World) (htb : Tb w) (ht : Tab w) (A : Option Addr) (n c : Nat) (X : Option Addr) (m k : Nat) (b : Bok) (hb : Bq w A n c X m k b) (r1 : n * 24 ≤ 140737488351232) (r2 : m * 48 ≤ 140737488351232) (r3 : ∀ x ∈ b.en, x.ls.length * 24 ≤ 140737488351232)
    (x : En) (B : Option Addr) (p q : Nat) (hx : Lq w B p q x.ls) (hks : x.key.size ≤ maxLen) (r4 : p * 24 ≤ 140737488351232)
    (L : Option Addr) (p2 q2 : Nat) (ps : List Pln) (hps : Ps w L ps ∧ ps.length = p2 ∧ p2 ≤ q2 ∧ q2 ≤ maxLen ∧ (L = none → p2 = 0)) (r5 : p2 * 80 ≤ 140737488351232)
    (at' : Int) (wat : (Lit.int .i64 at').wf = true) (code : ByteArray) (hcode : code.size ≤ maxLen) :
    Calls Tryz.prog 3 #[bv A n c X m k b.shut, .agg #[.string x.key, .int .i64 x.day, .slice B p q], .slice L p2 q2, .int .i64 at', .string code] w fun e w' => e = .returned (.bool true) ∧ Below w.heap.size w w' := by
  have l1 : n ≤ 5864062014700 := by omega
  have l2 : m ≤ 2932031007390 := by omega
  have l3 : ∀ x ∈ b.en, x.ls.length ≤ 5864062014700 := fun x hx => by have := r3 x hx; omega
  have l4 : p ≤ 5864062014700 := by omega
  have l5 : p2 ≤ 1759218604400 := by omega
  have HB := Lib.hid hb
  have HX := Lib.hid hx
  have HP := Lib.hid hps.1
  have HPn := Lib.hid hps.2.1
  have HPz := Lib.hid hps.2.2.2.2
  have HTb := Lib.hid htb
  have HT := Lib.hid ht
  have HRl := Lib.hid (fun w' (h : Mor w w') => roomy_ln B p q (flat pc x.ls) { data := #[] } 78 w' (fun W hW y hy j u hu => si_flat (by have := (hx.mor (h.trans' hW)).si; rw [hy] at this; exact this) j u hu) (flat_one x.ls) (by rw [flat_len pc 2 pc_len, hx.length]) hx.nil (by omega))
  have HRp := Lib.hid (fun w' (h : Mor w w') => roomy_pl L p2 q2 (flat pl7 ps) { data := #[109, 97, 114, 107] } 0 0 0 0 { data := #[] } { data := #[] } w' (fun W hW y hy j u hu => pl_flat (by have := (hps.1.mor h).mor hW; rw [hy] at this; exact this) j u hu) (pl7_one ps) (by rw [flat_len pl7 7 pl7_len, hps.2.1]) hps.2.2.2.2 (by omega))
  have HWr := Lib.hid (fun w' (h : Mor w w') => lwrite_any x B p q w' (hx.mor h) hks (htb.mor h))
  have hsh : ∃ sh, sh = b.shut := ⟨_, rfl⟩
  obtain ⟨sh, hsh⟩ := hsh
  rw [← hsh]
  have HSh := Lib.hid hsh
  have HKo := Lib.hid (fun w' (h : Mor w w') => show Calls Tryz.prog 5 #[.agg #[.slice A n c, .slice X m k, .int .i64 sh]] w' (fun e w2 => ∃ vA vX qs, e = .returned (.agg #[vA, vX, .int .i64 sh]) ∧ OwnBk w2 w'.heap.size vA vX n m b qs ∧ Mor w' w2) from by rw [hsh]; exact kopied_any A n c X m k b w' (hb.mor h) l1 l2 l3)
  have HL3 := Lib.hid l3
  clear hb hx hps htb ht r1 r2 r3 r4 r5 l3 hsh
  obtain ⟨ky, hky⟩ : ∃ ky, ky = x.key := ⟨_, rfl⟩
  obtain ⟨dy, hdy⟩ : ∃ dy, dy = x.day := ⟨_, rfl⟩
  rw [← hky, ← hdy]
  have HKd := Lib.hid (And.intro hky hdy)
  rw [← hky] at hks
  rw [← hky, ← hdy] at HWr
  clear hky hdy
  go_enter Tryz.func3, Tryz.ntmps3
  go_wp2_with fail
  have hB0 := (Bk.new w 25 #[.slice A n c, .slice X m k, .int .i64 sh]).alloc (.cells #[.string ky, .int .i64 dy, .slice B p q] 28)
  have hE0 := Bk.new (w.alloc (.cells #[.slice A n c, .slice X m k, .int .i64 sh] 25)) 28 #[.string ky, .int .i64 dy, .slice B p q]
  rw [szAl] at hE0
  have HM0 := Lib.hid (((Mor.refl w).alloc (o := .cells #[.slice A n c, .slice X m k, .int .i64 sh] 25)).alloc (o := .cells #[.string ky, .int .i64 dy, .slice B p q] 28))
  obtain ⟨bB, hbB⟩ : ∃ g, g = w.heap.size := ⟨_, rfl⟩
  obtain ⟨bE, hbE⟩ : ∃ g, g = w.heap.size + 1 := ⟨_, rfl⟩
  rw [← hbE, ← hbB]
  rw [← hbE] at hE0
  rw [← hbB] at hB0
  generalize (w.alloc (.cells #[.slice A n c, .slice X m k, .int .i64 sh] 25)).alloc (.cells #[.string ky, .int .i64 dy, .slice B p q] 28) = w0 at *
  have HBB := Lib.hid (fun w' (h : Mor w0 w') => hB0.mor h)
  have HBE := Lib.hid (fun w' (h : Mor w0 w') => hE0.mor h)
  have HBc := Lib.hid (fun w' (h : Mor w0 w') => show w'.cell? ⟨bB, 0, none⟩ = some (.slice A n c) ∧ w'.cell? ⟨bB, 1, none⟩ = some (.slice X m k) ∧ w'.cell? ⟨bB, 2, none⟩ = some (.int .i64 sh) ∧ bB < w'.heap.size from ⟨by rw [(HBB.out w' h).cell]; rfl, by rw [(HBB.out w' h).cell]; rfl, by rw [(HBB.out w' h).cell]; rfl, (HBB.out w' h).lt⟩)
  have HEc := Lib.hid (fun w' (h : Mor w0 w') => show w'.cell? ⟨bE, 0, none⟩ = some (.string ky) ∧ w'.cell? ⟨bE, 1, none⟩ = some (.int .i64 dy) ∧ w'.cell? ⟨bE, 2, none⟩ = some (.slice B p q) ∧ bE < w'.heap.size from ⟨by rw [(HBE.out w' h).cell]; rfl, by rw [(HBE.out w' h).cell]; rfl, by rw [(HBE.out w' h).cell]; rfl, (HBE.out w' h).lt⟩)
  clear hB0 hE0 hbB hbE
  refine (begun_any _).mono ?_
  rintro e w1 ⟨rfl, hm⟩
  have HM1 := Lib.hid hm
  clear hm
  obtain ⟨x0, x1, x2, x3⟩ := HBc.out w1 HM1.out
  obtain ⟨z0, z1, z2, z3⟩ := HEc.out w1 HM1.out
  go_wp2_with fail
  refine (HKo.out w1 (HM0.out.trans' HM1.out)).mono ?_
  rintro e w2 ⟨vA, vX, qs, rfl, hK, hm⟩
  obtain ⟨gA, hvA, hgA, -⟩ := hK.ac
  subst hvA
  obtain ⟨AX, cX, hvX, -, -, -⟩ := own_shape hK.row
  subst hvX
  have HK := Lib.hid hK
  have HIlt := Lib.hid (fun bb (hb : (Bz.mk (some ⟨gA, 0, none⟩) n (n + 3) AX m cX b qs).blk bb) => (hK.z.lt hb).2)
  have HM2 := Lib.hid (HM1.out.trans' hm)
  have HSz1 := Lib.hid (show w1.heap.size ≤ w2.heap.size from hm.below.size)
  clear hK hm hgA HKo x0 x1 x2 x3 z0 z1 z2 z3
  obtain ⟨x0, x1, x2, x3⟩ := HBc.out w2 HM2.out
  obtain ⟨z0, z1, z2, z3⟩ := HEc.out w2 HM2.out
  go_wp2_with fail
  have hI0 := (Bk.new w2 25 #[.slice (some ⟨gA, 0, none⟩) n (n + 3), .slice AX m cX, .int .i64 sh]).alloc (.cells #[.string ky, .int .i64 dy, .slice B p q] 28)
  have hY0 := Bk.new (w2.alloc (.cells #[.slice (some ⟨gA, 0, none⟩) n (n + 3), .slice AX m cX, .int .i64 sh] 25)) 28 #[.string ky, .int .i64 dy, .slice B p q]
  rw [szAl] at hY0
  have hMy : Mor w2 ((w2.alloc (.cells #[.slice (some ⟨gA, 0, none⟩) n (n + 3), .slice AX m cX, .int .i64 sh] 25)).alloc (.cells #[.string ky, .int .i64 dy, .slice B p q] 28)) := (Mor.refl w2).alloc.alloc
  obtain ⟨bI, hbI⟩ : ∃ g, g = w2.heap.size := ⟨_, rfl⟩
  obtain ⟨bY, hbY⟩ : ∃ g, g = w2.heap.size + 1 := ⟨_, rfl⟩
  rw [← hbY, ← hbI]
  rw [← hbY] at hY0
  rw [← hbI] at hI0
  generalize (w2.alloc (.cells #[.slice (some ⟨gA, 0, none⟩) n (n + 3), .slice AX m cX, .int .i64 sh] 25)).alloc (.cells #[.string ky, .int .i64 dy, .slice B p q] 28) = wy at *
  refine (HRl.out wy (HM0.out.trans' (HM2.out.trans' hMy))).mono ?_
  rintro e w3 ⟨gY, rfl, hgy, hm, hby⟩
  have hI3 := hI0.mor hm
  have hY3 := hY0.mor hm
  have hIY : bI ≠ bY := by omega
  have hgYY : gY ≠ bY := by have := hY0.lt; omega
  have HY3 := Lib.hid hY3
  have HI3 := Lib.hid hI3
  have HM3 := Lib.hid (hMy.trans' hm)
  have HGY := Lib.hid (show w2.heap.size ≤ gY by have := hMy.below.size; omega)
  have HYb3 := Lib.hid hby
  have HbY := Lib.hid (show w2.heap.size ≤ bY by omega)
  clear x0 x1 x2 x3 z0 z1 z2 z3 hI0 hY0 hMy hm hby hI3 hY3 hgy hbI hbY
  have z0 := HY3.out.cell 2
  have z1 := HY3.out.frozen 2
  have z2 := HY3.out.lt
  simp at z0
  go_wp2_with fail
  have hI4 := HI3.out.set_other bY 2 (.slice (some ⟨gY, 0, none⟩) p (p + 3)) (fun e => hIY (by first | exact e | exact e.symm))
  have hY4 := HY3.out.set_ 2 (.slice (some ⟨gY, 0, none⟩) p (p + 3))
  simp only [List.setIfInBounds_toArray, List.set_cons_zero, List.set_cons_succ] at hY4
  have hYb4 := blk_off (i := 2) (u := .slice (some ⟨gY, 0, none⟩) p (p + 3)) HYb3.out (fun e => hgYY e.symm)
  have hM4 := HM3.out.setC' (i := 2) (u := .slice (some ⟨gY, 0, none⟩) p (p + 3)) HbY.out
  generalize w3.setCell ⟨bY, 2, none⟩ (.slice (some ⟨gY, 0, none⟩) p (p + 3)) = w4 at *
  clear z0 z1 z2 HI3 HY3 HYb3 HM3
  refine (HRp.out w4 (HM0.out.trans' (HM2.out.trans' hM4))).mono ?_
  rintro e wS ⟨gL, rfl, hgl, hm, hbl⟩
  have HcI := Lib.hid (fun w' (h : Mor wS w') => hI4.mor (hm.trans' h))
  have HcY := Lib.hid (fun w' (h : Mor wS w') => hY4.mor (hm.trans' h))
  have HMS := Lib.hid (HM2.out.trans' (hM4.trans' hm))
  have HYb := Lib.hid (hYb4.below hm.below hYb4.lt)
  have HLb := Lib.hid (show Blk wS gL 37 (room3 (flat pl7 ps) mkP).toArray from hbl)
  have HKS := Lib.hid (show OwnBk wS w1.heap.size (.slice (some ⟨gA, 0, none⟩) n (n + 3)) (.slice AX m cX) n m b qs from HK.out.mor (hM4.trans' hm))
  have HOrd := Lib.hid (show gY < gL ∧ gL < wS.heap.size from ⟨by have := hYb4.lt; omega, hbl.lt⟩)
  clear hI4 hY4 hYb4 hM4 hgl hm hbl HK HRl HRp
  have HIn := Lib.hid (fun w' (h : Mor wS w') => show Bq w' (some ⟨gA, 0, none⟩) n (n + 3) AX m cX b from own_bq (HKS.out.own.mor h))
  have HYq := Lib.hid (fun w' (h : Mor wS w') => show Lq w' (some ⟨gY, 0, none⟩) p (p + 3) x.ls from
    ⟨(Si.of_rd (Rd.blk3 HYb.out)).mor h, HX.out.length, by omega, by unfold maxLen; omega, (fun e => by cases e), HX.out.str⟩)
  have HPq := Lib.hid (fun w' (h : Mor wS w') => show Ps w' (some ⟨gL, 0, none⟩) ps from (Ps.blk3 HLb.out HP.out.wf).mor h)
  have HBc2 := Lib.hid (fun w' (h : Mor wS w') => HBc.out w' (HMS.out.trans' h))
  have HEc2 := Lib.hid (fun w' (h : Mor wS w') => HEc.out w' (HMS.out.trans' h))
  have HIc := Lib.hid (fun w' (h : Mor wS w') => show w'.cell? ⟨bI, 0, none⟩ = some (.slice (some ⟨gA, 0, none⟩) n (n + 3)) ∧ w'.cell? ⟨bI, 1, none⟩ = some (.slice AX m cX) ∧ w'.cell? ⟨bI, 2, none⟩ = some (.int .i64 sh) ∧ bI < w'.heap.size from ⟨by rw [(HcI.out w' h).cell]; rfl, by rw [(HcI.out w' h).cell]; rfl, by rw [(HcI.out w' h).cell]; rfl, (HcI.out w' h).lt⟩)
  have HYc := Lib.hid (fun w' (h : Mor wS w') => show w'.cell? ⟨bY, 0, none⟩ = some (.string ky) ∧ w'.cell? ⟨bY, 1, none⟩ = some (.int .i64 dy) ∧ w'.cell? ⟨bY, 2, none⟩ = some (.slice (some ⟨gY, 0, none⟩) p (p + 3)) ∧ bY < w'.heap.size from ⟨by rw [(HcY.out w' h).cell]; rfl, by rw [(HcY.out w' h).cell]; rfl, by rw [(HcY.out w' h).cell]; rfl, (HcY.out w' h).lt⟩)
  clear HBc HEc HBB HBE
  have HGe := Lib.hid (fun w' (h : Mor wS w') => show Calls Tryz.prog 11 #[.agg #[.slice (some ⟨gA, 0, none⟩) n (n + 3), .slice AX m cX, .int .i64 sh], .string ky] w' (NewE w') from by have h2 := get_newe (some ⟨gA, 0, none⟩) n (n + 3) AX m cX b ky w' (HIn.out w' h); rw [← HSh.out] at h2; exact h2)
  have HPo := Lib.hid (fun w' (h : Mor wS w') => show Calls Tryz.prog 12 #[.agg #[.slice (some ⟨gA, 0, none⟩) n (n + 3), .slice AX m cX, .int .i64 sh], .agg #[.string ky, .int .i64 dy, .slice (some ⟨gY, 0, none⟩) p (p + 3)]] w' (NewB w') from by have h2 := post_newb (some ⟨gA, 0, none⟩) n (n + 3) AX m cX b ⟨ky, dy, x.ls⟩ (some ⟨gY, 0, none⟩) p (p + 3) w' (HIn.out w' h) (HYq.out w' h) hks; rw [← HSh.out] at h2; exact h2)
  have HSu := Lib.hid (fun w' (h : Mor wS w') => show Calls Tryz.prog 13 #[.agg #[.slice (some ⟨gA, 0, none⟩) n (n + 3), .slice AX m cX, .int .i64 sh], .int .i64 at'] w' (NewB w') from by have h2 := shut_newb (some ⟨gA, 0, none⟩) n (n + 3) AX m cX b at' w' (HIn.out w' h); rw [← HSh.out] at h2; exact h2)
  have HCl := Lib.hid (fun w' (h : Mor wS w') => show Calls Tryz.prog 14 #[.agg #[.slice (some ⟨gA, 0, none⟩) n (n + 3), .slice AX m cX, .int .i64 sh], .string { data := #[99] }, .int .i64 at', .string code] w' (NewB w') from by have h2 := close_newb (some ⟨gA, 0, none⟩) n (n + 3) AX m cX b { data := #[99] } at' code w' (HIn.out w' h) (by unfold maxLen; decide) hcode; rw [← HSh.out] at h2; exact h2)
  have HUd := Lib.hid (fun w' (h : Mor wS w') => show Calls Tryz.prog 15 #[.agg #[.slice (some ⟨gA, 0, none⟩) n (n + 3), .slice AX m cX, .int .i64 sh], .string ky, .string { data := #[117] }, .int .i64 at'] w' (NewB w') from by have h2 := undo_newb (some ⟨gA, 0, none⟩) n (n + 3) AX m cX b ky { data := #[117] } at' w' (HIn.out w' h) (by unfold maxLen; decide); rw [← HSh.out] at h2; exact h2)
  have HRu := Lib.hid (fun w' (h : Mor wS w') => show Calls Tryz.prog 16 #[.agg #[.slice (some ⟨gA, 0, none⟩) n (n + 3), .slice AX m cX, .int .i64 sh], .slice (some ⟨gL, 0, none⟩) p2 (p2 + 3), .int .i64 at'] w' (NewB w') from by have h2 := run_newb (some ⟨gA, 0, none⟩) n (n + 3) AX m cX b (some ⟨gL, 0, none⟩) p2 (p2 + 3) ps at' w' (HIn.out w' h) (HPq.out w' h) HPn.out (by omega) (by unfold maxLen; omega) (HT.out.mor (HM0.out.trans' (HMS.out.trans' h))); rw [← HSh.out] at h2; exact h2)
  have HRe := Lib.hid (fun w' (h : Mor wS w') => show Calls Tryz.prog 17 #[.agg #[.slice (some ⟨gA, 0, none⟩) n (n + 3), .slice AX m cX, .int .i64 sh], .string (wrT x)] w' (NewB3 w') from by have h2 := replay_newb (some ⟨gA, 0, none⟩) n (n + 3) AX m cX b x w' (HIn.out w' h) (by rw [← HKd.out.1]; exact hks) (HTb.out.mor (HM0.out.trans' (HMS.out.trans' h))); rw [← HSh.out] at h2; exact h2)
  obtain ⟨x0, x1, x2, x3⟩ := HBc2.out _ (Mor.refl wS)
  obtain ⟨z0, z1, z2, z3⟩ := HEc2.out _ (Mor.refl wS)
  obtain ⟨i0, i1, i2, i3⟩ := HIc.out _ (Mor.refl wS)
  obtain ⟨y0, y1, y2, y3⟩ := HYc.out _ (Mor.refl wS)
  go_wp2_with fail
  refine (HWr.out _ (HM0.out.trans' (HMS.out.trans' (by repeat (first | exact (Mor.refl wS) | exact Mor.refl _ | apply Mor.alloc | apply Mor.more | apply Mor.drewN | apply Mor.drew))))).mono ?_
  rintro e uw1 ⟨rfl, hm⟩
  have HMuw1 := Lib.hid (show Mor wS uw1 from Mor.trans' (by repeat (first | exact (Mor.refl wS) | exact Mor.refl _ | apply Mor.alloc | apply Mor.more | apply Mor.drewN | apply Mor.drew)) hm)
  have HSuw1 := Lib.hid (show Mor wS uw1 from Mor.trans' (by repeat (first | exact (Mor.refl wS) | exact Mor.refl _ | apply Mor.alloc | apply Mor.more | apply Mor.drewN | apply Mor.drew)) hm)
  clear x0 x1 x2 x3 z0 z1 z2 z3 i0 i1 i2 i3 y0 y1 y2 y3
  clear hm
  obtain ⟨x0, x1, x2, x3⟩ := HBc2.out _ HMuw1.out
  obtain ⟨z0, z1, z2, z3⟩ := HEc2.out _ HMuw1.out
  obtain ⟨i0, i1, i2, i3⟩ := HIc.out _ HMuw1.out
  obtain ⟨y0, y1, y2, y3⟩ := HYc.out _ HMuw1.out
  go_wp2_with fail
  refine (under_news (some ⟨gA, 0, none⟩) n (n + 3) b.ac code _ (HIn.out _ (by repeat (first | exact HMuw1.out | exact Mor.refl _ | apply Mor.alloc | apply Mor.more | apply Mor.drewN | apply Mor.drew))).ac hcode).mono ?_
  rintro e uw2 ⟨U, nU, kU, rU, us, rfl, ho, hl, hn, hm⟩
  have HMuw2 := Lib.hid (show Mor wS uw2 from Mor.trans' (by repeat (first | exact HMuw1.out | exact Mor.refl _ | apply Mor.alloc | apply Mor.more | apply Mor.drewN | apply Mor.drew)) hm)
  have HSuw2 := Lib.hid (show Mor uw1 uw2 from Mor.trans' (by repeat (first | exact (Mor.refl uw1) | exact Mor.refl _ | apply Mor.alloc | apply Mor.more | apply Mor.drewN | apply Mor.drew)) hm)
  have HU := Lib.hid ho
  have HUl := Lib.hid hl
  have HUn := Lib.hid hn
  clear ho hl hn
  clear x0 x1 x2 x3 z0 z1 z2 z3 i0 i1 i2 i3 y0 y1 y2 y3
  clear hm
  obtain ⟨x0, x1, x2, x3⟩ := HBc2.out _ HMuw2.out
  obtain ⟨z0, z1, z2, z3⟩ := HEc2.out _ HMuw2.out
  obtain ⟨i0, i1, i2, i3⟩ := HIc.out _ HMuw2.out
  obtain ⟨y0, y1, y2, y3⟩ := HYc.out _ HMuw2.out
  go_wp2_with fail
  refine (turned_newe ⟨ky, dy, x.ls⟩ { data := #[116] } 5 hks (by unfold maxLen; decide) _ (some ⟨gY, 0, none⟩) p (p + 3) (HYq.out _ (by repeat (first | exact HMuw2.out | exact Mor.refl _ | apply Mor.alloc | apply Mor.more | apply Mor.drewN | apply Mor.drew)))).mono ?_
  rintro e uw3 ⟨sT, dT, AT, nT, cT, rT, lT, rfl, ho, hl, hn, hm⟩
  have HMuw3 := Lib.hid (show Mor wS uw3 from Mor.trans' (by repeat (first | exact HMuw2.out | exact Mor.refl _ | apply Mor.alloc | apply Mor.more | apply Mor.drewN | apply Mor.drew)) hm)
  have HSuw3 := Lib.hid (show Mor uw2 uw3 from Mor.trans' (by repeat (first | exact (Mor.refl uw2) | exact Mor.refl _ | apply Mor.alloc | apply Mor.more | apply Mor.drewN | apply Mor.drew)) hm)
  have HTo := Lib.hid ho
  have HTl := Lib.hid hl
  have HTn := Lib.hid hn
  clear ho hl hn
  clear x0 x1 x2 x3 z0 z1 z2 z3 i0 i1 i2 i3 y0 y1 y2 y3
  clear hm
  obtain ⟨x0, x1, x2, x3⟩ := HBc2.out _ HMuw3.out
  obtain ⟨z0, z1, z2, z3⟩ := HEc2.out _ HMuw3.out
  obtain ⟨i0, i1, i2, i3⟩ := HIc.out _ HMuw3.out
  obtain ⟨y0, y1, y2, y3⟩ := HYc.out _ HMuw3.out
  go_wp2_with fail
  have hC := Bk.new uw3 28 #[.string sT, .int .i64 dT, .slice AT nT cT]
  obtain ⟨gT, hg⟩ : ∃ g, g = uw3.heap.size := ⟨_, rfl⟩
  rw [← hg] at hC ⊢
  have hV := (Mor.refl uw3).alloc (o := .cells #[.string sT, .int .i64 dT, .slice AT nT cT] 28)
  generalize uw3.alloc (.cells #[.string sT, .int .i64 dT, .slice AT nT cT] 28) = vw3 at *
  have HCvw3 := Lib.hid (fun w' (h : Mor vw3 w') => hC.mor h)
  have HMvw3 := Lib.hid (show Mor wS vw3 from HMuw3.out.trans' hV)
  have HSvw3 := Lib.hid (show Mor uw3 vw3 from hV)
  have HGvw3 := Lib.hid (show uw3.heap.size ≤ gT by omega)
  clear hC hV hg
  refine (HGe.out _ (by repeat (first | exact HMvw3.out | exact Mor.refl _ | apply Mor.alloc | apply Mor.more | apply Mor.drewN | apply Mor.drew))).mono ?_
  rintro e uw4 ⟨sG, dG, AG, nG, cG, rG, lG, rfl, ho, hl, hn, hm⟩
  have HMuw4 := Lib.hid (show Mor wS uw4 from Mor.trans' (by repeat (first | exact HMvw3.out | exact Mor.refl _ | apply Mor.alloc | apply Mor.more | apply Mor.drewN | apply Mor.drew)) hm)
  have HSuw4 := Lib.hid (show Mor vw3 uw4 from Mor.trans' (by repeat (first | exact (Mor.refl vw3) | exact Mor.refl _ | apply Mor.alloc | apply Mor.more | apply Mor.drewN | apply Mor.drew)) hm)
  have HGo := Lib.hid ho
  have HGl := Lib.hid hl
  have HGn := Lib.hid hn
  clear ho hl hn
  clear x0 x1 x2 x3 z0 z1 z2 z3 i0 i1 i2 i3 y0 y1 y2 y3
  clear hm
  obtain ⟨x0, x1, x2, x3⟩ := HBc2.out _ HMuw4.out
  obtain ⟨z0, z1, z2, z3⟩ := HEc2.out _ HMuw4.out
  obtain ⟨i0, i1, i2, i3⟩ := HIc.out _ HMuw4.out
  obtain ⟨y0, y1, y2, y3⟩ := HYc.out _ HMuw4.out
  go_wp2_with fail
  have hC := Bk.new uw4 28 #[.string sG, .int .i64 dG, .slice AG nG cG]
  obtain ⟨gG, hg⟩ : ∃ g, g = uw4.heap.size := ⟨_, rfl⟩
  rw [← hg] at hC ⊢
  have hV := (Mor.refl uw4).alloc (o := .cells #[.string sG, .int .i64 dG, .slice AG nG cG] 28)
  generalize uw4.alloc (.cells #[.string sG, .int .i64 dG, .slice AG nG cG] 28) = vw4 at *
  have HCvw4 := Lib.hid (fun w' (h : Mor vw4 w') => hC.mor h)
  have HMvw4 := Lib.hid (show Mor wS vw4 from HMuw4.out.trans' hV)
  have HSvw4 := Lib.hid (show Mor uw4 vw4 from hV)
  have HGvw4 := Lib.hid (show uw4.heap.size ≤ gG by omega)
  clear hC hV hg
  refine (HPo.out _ (by repeat (first | exact HMvw4.out | exact Mor.refl _ | apply Mor.alloc | apply Mor.more | apply Mor.drewN | apply Mor.drew))).mono ?_
  rintro e uw5 ⟨A51, n51, c51, X51, m51, k51, r51, y51, rfl, ho, hf, hm⟩
  have HMuw5 := Lib.hid (show Mor wS uw5 from Mor.trans' (by repeat (first | exact HMvw4.out | exact Mor.refl _ | apply Mor.alloc | apply Mor.more | apply Mor.drewN | apply Mor.drew)) hm)
  have HSuw5 := Lib.hid (show Mor vw4 uw5 from Mor.trans' (by repeat (first | exact (Mor.refl vw4) | exact Mor.refl _ | apply Mor.alloc | apply Mor.more | apply Mor.drewN | apply Mor.drew)) hm)
  have HO51 := Lib.hid ho
  have HF51 := Lib.hid hf
  clear ho hf
  clear x0 x1 x2 x3 z0 z1 z2 z3 i0 i1 i2 i3 y0 y1 y2 y3
  clear hm
  obtain ⟨x0, x1, x2, x3⟩ := HBc2.out _ HMuw5.out
  obtain ⟨z0, z1, z2, z3⟩ := HEc2.out _ HMuw5.out
  obtain ⟨i0, i1, i2, i3⟩ := HIc.out _ HMuw5.out
  obtain ⟨y0, y1, y2, y3⟩ := HYc.out _ HMuw5.out
  go_wp2_with fail
  have hC := Bk.new uw5 25 #[.slice A51 n51 c51, .slice X51 m51 k51, .int .i64 y51.shut]
  obtain ⟨g51, hg⟩ : ∃ g, g = uw5.heap.size := ⟨_, rfl⟩
  rw [← hg] at hC ⊢
  have hV := (Mor.refl uw5).alloc (o := .cells #[.slice A51 n51 c51, .slice X51 m51 k51, .int .i64 y51.shut] 25)
  generalize uw5.alloc (.cells #[.slice A51 n51 c51, .slice X51 m51 k51, .int .i64 y51.shut] 25) = vw5 at *
  have HCvw5 := Lib.hid (fun w' (h : Mor vw5 w') => hC.mor h)
  have HMvw5 := Lib.hid (show Mor wS vw5 from HMuw5.out.trans' hV)
  have HSvw5 := Lib.hid (show Mor uw5 vw5 from hV)
  have HGvw5 := Lib.hid (show uw5.heap.size ≤ g51 by omega)
  clear hC hV hg
  refine (HSu.out _ (by repeat (first | exact HMvw5.out | exact Mor.refl _ | apply Mor.alloc | apply Mor.more | apply Mor.drewN | apply Mor.drew))).mono ?_
  rintro e uw6 ⟨A52, n52, c52, X52, m52, k52, r52, y52, rfl, ho, hf, hm⟩
  have HMuw6 := Lib.hid (show Mor wS uw6 from Mor.trans' (by repeat (first | exact HMvw5.out | exact Mor.refl _ | apply Mor.alloc | apply Mor.more | apply Mor.drewN | apply Mor.drew)) hm)
  have HSuw6 := Lib.hid (show Mor vw5 uw6 from Mor.trans' (by repeat (first | exact (Mor.refl vw5) | exact Mor.refl _ | apply Mor.alloc | apply Mor.more | apply Mor.drewN | apply Mor.drew)) hm)
  have HO52 := Lib.hid ho
  have HF52 := Lib.hid hf
  clear ho hf
  clear x0 x1 x2 x3 z0 z1 z2 z3 i0 i1 i2 i3 y0 y1 y2 y3
  clear hm
  obtain ⟨x0, x1, x2, x3⟩ := HBc2.out _ HMuw6.out
  obtain ⟨z0, z1, z2, z3⟩ := HEc2.out _ HMuw6.out
  obtain ⟨i0, i1, i2, i3⟩ := HIc.out _ HMuw6.out
  obtain ⟨y0, y1, y2, y3⟩ := HYc.out _ HMuw6.out
  go_wp2_with fail
  have hC := Bk.new uw6 25 #[.slice A52 n52 c52, .slice X52 m52 k52, .int .i64 y52.shut]
  obtain ⟨g52, hg⟩ : ∃ g, g = uw6.heap.size := ⟨_, rfl⟩
  rw [← hg] at hC ⊢
  have hV := (Mor.refl uw6).alloc (o := .cells #[.slice A52 n52 c52, .slice X52 m52 k52, .int .i64 y52.shut] 25)
  generalize uw6.alloc (.cells #[.slice A52 n52 c52, .slice X52 m52 k52, .int .i64 y52.shut] 25) = vw6 at *
  have HCvw6 := Lib.hid (fun w' (h : Mor vw6 w') => hC.mor h)
  have HMvw6 := Lib.hid (show Mor wS vw6 from HMuw6.out.trans' hV)
  have HSvw6 := Lib.hid (show Mor uw6 vw6 from hV)
  have HGvw6 := Lib.hid (show uw6.heap.size ≤ g52 by omega)
  clear hC hV hg
  refine (HCl.out _ (by repeat (first | exact HMvw6.out | exact Mor.refl _ | apply Mor.alloc | apply Mor.more | apply Mor.drewN | apply Mor.drew))).mono ?_
  rintro e uw7 ⟨A53, n53, c53, X53, m53, k53, r53, y53, rfl, ho, hf, hm⟩
  have HMuw7 := Lib.hid (show Mor wS uw7 from Mor.trans' (by repeat (first | exact HMvw6.out | exact Mor.refl _ | apply Mor.alloc | apply Mor.more | apply Mor.drewN | apply Mor.drew)) hm)
  have HSuw7 := Lib.hid (show Mor vw6 uw7 from Mor.trans' (by repeat (first | exact (Mor.refl vw6) | exact Mor.refl _ | apply Mor.alloc | apply Mor.more | apply Mor.drewN | apply Mor.drew)) hm)
  have HO53 := Lib.hid ho
  have HF53 := Lib.hid hf
  clear ho hf
  clear x0 x1 x2 x3 z0 z1 z2 z3 i0 i1 i2 i3 y0 y1 y2 y3
  clear hm
  obtain ⟨x0, x1, x2, x3⟩ := HBc2.out _ HMuw7.out
  obtain ⟨z0, z1, z2, z3⟩ := HEc2.out _ HMuw7.out
  obtain ⟨i0, i1, i2, i3⟩ := HIc.out _ HMuw7.out
  obtain ⟨y0, y1, y2, y3⟩ := HYc.out _ HMuw7.out
  go_wp2_with fail
  have hC := Bk.new uw7 25 #[.slice A53 n53 c53, .slice X53 m53 k53, .int .i64 y53.shut]
  obtain ⟨g53, hg⟩ : ∃ g, g = uw7.heap.size := ⟨_, rfl⟩
  rw [← hg] at hC ⊢
  have hV := (Mor.refl uw7).alloc (o := .cells #[.slice A53 n53 c53, .slice X53 m53 k53, .int .i64 y53.shut] 25)
  generalize uw7.alloc (.cells #[.slice A53 n53 c53, .slice X53 m53 k53, .int .i64 y53.shut] 25) = vw7 at *
  have HCvw7 := Lib.hid (fun w' (h : Mor vw7 w') => hC.mor h)
  have HMvw7 := Lib.hid (show Mor wS vw7 from HMuw7.out.trans' hV)
  have HSvw7 := Lib.hid (show Mor uw7 vw7 from hV)
  have HGvw7 := Lib.hid (show uw7.heap.size ≤ g53 by omega)
  clear hC hV hg
  refine (HUd.out _ (by repeat (first | exact HMvw7.out | exact Mor.refl _ | apply Mor.alloc | apply Mor.more | apply Mor.drewN | apply Mor.drew))).mono ?_
  rintro e uw8 ⟨A54, n54, c54, X54, m54, k54, r54, y54, rfl, ho, hf, hm⟩
  have HMuw8 := Lib.hid (show Mor wS uw8 from Mor.trans' (by repeat (first | exact HMvw7.out | exact Mor.refl _ | apply Mor.alloc | apply Mor.more | apply Mor.drewN | apply Mor.drew)) hm)
  have HSuw8 := Lib.hid (show Mor vw7 uw8 from Mor.trans' (by repeat (first | exact (Mor.refl vw7) | exact Mor.refl _ | apply Mor.alloc | apply Mor.more | apply Mor.drewN | apply Mor.drew)) hm)
  have HO54 := Lib.hid ho
  have HF54 := Lib.hid hf
  clear ho hf
  clear x0 x1 x2 x3 z0 z1 z2 z3 i0 i1 i2 i3 y0 y1 y2 y3
  clear hm
  obtain ⟨x0, x1, x2, x3⟩ := HBc2.out _ HMuw8.out
  obtain ⟨z0, z1, z2, z3⟩ := HEc2.out _ HMuw8.out
  obtain ⟨i0, i1, i2, i3⟩ := HIc.out _ HMuw8.out
  obtain ⟨y0, y1, y2, y3⟩ := HYc.out _ HMuw8.out
  go_wp2_with fail
  have hC := Bk.new uw8 25 #[.slice A54 n54 c54, .slice X54 m54 k54, .int .i64 y54.shut]
  obtain ⟨g54, hg⟩ : ∃ g, g = uw8.heap.size := ⟨_, rfl⟩
  rw [← hg] at hC ⊢
  have hV := (Mor.refl uw8).alloc (o := .cells #[.slice A54 n54 c54, .slice X54 m54 k54, .int .i64 y54.shut] 25)
  generalize uw8.alloc (.cells #[.slice A54 n54 c54, .slice X54 m54 k54, .int .i64 y54.shut] 25) = vw8 at *
  have HCvw8 := Lib.hid (fun w' (h : Mor vw8 w') => hC.mor h)
  have HMvw8 := Lib.hid (show Mor wS vw8 from HMuw8.out.trans' hV)
  have HSvw8 := Lib.hid (show Mor uw8 vw8 from hV)
  have HGvw8 := Lib.hid (show uw8.heap.size ≤ g54 by omega)
  clear hC hV hg
  refine (HRu.out _ (by repeat (first | exact HMvw8.out | exact Mor.refl _ | apply Mor.alloc | apply Mor.more | apply Mor.drewN | apply Mor.drew))).mono ?_
  rintro e uw9 ⟨A55, n55, c55, X55, m55, k55, r55, y55, rfl, ho, hf, hm⟩
  have HMuw9 := Lib.hid (show Mor wS uw9 from Mor.trans' (by repeat (first | exact HMvw8.out | exact Mor.refl _ | apply Mor.alloc | apply Mor.more | apply Mor.drewN | apply Mor.drew)) hm)
  have HSuw9 := Lib.hid (show Mor vw8 uw9 from Mor.trans' (by repeat (first | exact (Mor.refl vw8) | exact Mor.refl _ | apply Mor.alloc | apply Mor.more | apply Mor.drewN | apply Mor.drew)) hm)
  have HO55 := Lib.hid ho
  have HF55 := Lib.hid hf
  clear ho hf
  clear x0 x1 x2 x3 z0 z1 z2 z3 i0 i1 i2 i3 y0 y1 y2 y3
  clear hm
  obtain ⟨x0, x1, x2, x3⟩ := HBc2.out _ HMuw9.out
  obtain ⟨z0, z1, z2, z3⟩ := HEc2.out _ HMuw9.out
  obtain ⟨i0, i1, i2, i3⟩ := HIc.out _ HMuw9.out
  obtain ⟨y0, y1, y2, y3⟩ := HYc.out _ HMuw9.out
  go_wp2_with fail
  have hC := Bk.new uw9 25 #[.slice A55 n55 c55, .slice X55 m55 k55, .int .i64 y55.shut]
  obtain ⟨g55, hg⟩ : ∃ g, g = uw9.heap.size := ⟨_, rfl⟩
  rw [← hg] at hC ⊢
  have hV := (Mor.refl uw9).alloc (o := .cells #[.slice A55 n55 c55, .slice X55 m55 k55, .int .i64 y55.shut] 25)
  generalize uw9.alloc (.cells #[.slice A55 n55 c55, .slice X55 m55 k55, .int .i64 y55.shut] 25) = vw9 at *
  have HCvw9 := Lib.hid (fun w' (h : Mor vw9 w') => hC.mor h)
  have HMvw9 := Lib.hid (show Mor wS vw9 from HMuw9.out.trans' hV)
  have HSvw9 := Lib.hid (show Mor uw9 vw9 from hV)
  have HGvw9 := Lib.hid (show uw9.heap.size ≤ g55 by omega)
  clear hC hV hg
  refine (HRe.out _ (by repeat (first | exact HMvw9.out | exact Mor.refl _ | apply Mor.alloc | apply Mor.more | apply Mor.drewN | apply Mor.drew))).mono ?_
  rintro e uw10 ⟨A56, n56, c56, X56, m56, k56, r56, s56, y56, rfl, ho, hf, hm⟩
  have HMuw10 := Lib.hid (show Mor wS uw10 from Mor.trans' (by repeat (first | exact HMvw9.out | exact Mor.refl _ | apply Mor.alloc | apply Mor.more | apply Mor.drewN | apply Mor.drew)) hm)
  have HSuw10 := Lib.hid (show Mor vw9 uw10 from Mor.trans' (by repeat (first | exact (Mor.refl vw9) | exact Mor.refl _ | apply Mor.alloc | apply Mor.more | apply Mor.drewN | apply Mor.drew)) hm)
  have HO56 := Lib.hid ho
  have HF56 := Lib.hid hf
  clear ho hf
  clear x0 x1 x2 x3 z0 z1 z2 z3 i0 i1 i2 i3 y0 y1 y2 y3
  clear hm
  obtain ⟨x0, x1, x2, x3⟩ := HBc2.out _ HMuw10.out
  obtain ⟨z0, z1, z2, z3⟩ := HEc2.out _ HMuw10.out
  obtain ⟨i0, i1, i2, i3⟩ := HIc.out _ HMuw10.out
  obtain ⟨y0, y1, y2, y3⟩ := HYc.out _ HMuw10.out
  go_wp2_with fail
  have hC := Bk.new uw10 25 #[.slice A56 n56 c56, .slice X56 m56 k56, .int .i64 y56.shut]
  obtain ⟨g56, hg⟩ : ∃ g, g = uw10.heap.size := ⟨_, rfl⟩
  rw [← hg] at hC ⊢
  have hV := (Mor.refl uw10).alloc (o := .cells #[.slice A56 n56 c56, .slice X56 m56 k56, .int .i64 y56.shut] 25)
  generalize uw10.alloc (.cells #[.slice A56 n56 c56, .slice X56 m56 k56, .int .i64 y56.shut] 25) = vw10 at *
  have HCvw10 := Lib.hid (fun w' (h : Mor vw10 w') => hC.mor h)
  have HMvw10 := Lib.hid (show Mor wS vw10 from HMuw10.out.trans' hV)
  have HSvw10 := Lib.hid (show Mor uw10 vw10 from hV)
  have HGvw10 := Lib.hid (show uw10.heap.size ≤ g56 by omega)
  clear hC hV hg
  refine (samebook_yes (some ⟨gA, 0, none⟩) A n (n + 3) c AX X m cX k sh b _ (HIn.out _ (by repeat (first | exact HMvw10.out | exact Mor.refl _ | apply Mor.alloc | apply Mor.more | apply Mor.drewN | apply Mor.drew))) (HB.out.mor (HM0.out.trans' (HMS.out.trans' (by repeat (first | exact HMvw10.out | exact Mor.refl _ | apply Mor.alloc | apply Mor.more | apply Mor.drewN | apply Mor.drew)))))).mono ?_
  rintro e j1 ⟨rfl, hm⟩
  have HMj1 := Lib.hid (show Mor wS j1 from Mor.trans' (by repeat (first | exact HMvw10.out | exact Mor.refl _ | apply Mor.alloc | apply Mor.more | apply Mor.drewN | apply Mor.drew)) hm)
  have HSj1 := Lib.hid (show Mor vw10 j1 from Mor.trans' (by repeat (first | exact (Mor.refl vw10) | exact Mor.refl _ | apply Mor.alloc | apply Mor.more | apply Mor.drewN | apply Mor.drew)) hm)
  clear x0 x1 x2 x3 z0 z1 z2 z3 i0 i1 i2 i3 y0 y1 y2 y3
  clear hm
  obtain ⟨x0, x1, x2, x3⟩ := HBc2.out _ HMj1.out
  obtain ⟨z0, z1, z2, z3⟩ := HEc2.out _ HMj1.out
  obtain ⟨i0, i1, i2, i3⟩ := HIc.out _ HMj1.out
  obtain ⟨y0, y1, y2, y3⟩ := HYc.out _ HMj1.out
  go_wp2_with fail
  refine (marked_ac gA n (flat pc b.ac) { data := #[] } 77 _ (HKS.out.ac.blk.below (show Mor wS _ from (by repeat (first | exact HMj1.out | exact Mor.refl _ | apply Mor.alloc | apply Mor.more | apply Mor.drewN | apply Mor.drew))).below HKS.out.ac.blk.lt) (by rw [flat_len pc 2 pc_len, HB.out.ac.length]) (by omega)).mono ?_
  rintro e j2 ⟨rfl, hm⟩
  have HMj2 := Lib.hid (show Mor wS j2 from Mor.trans' (by repeat (first | exact HMj1.out | exact Mor.refl _ | apply Mor.alloc | apply Mor.more | apply Mor.drewN | apply Mor.drew)) hm)
  have HSj2 := Lib.hid (show Mor j1 j2 from Mor.trans' (by repeat (first | exact (Mor.refl j1) | exact Mor.refl _ | apply Mor.alloc | apply Mor.more | apply Mor.drewN | apply Mor.drew)) hm)
  clear x0 x1 x2 x3 z0 z1 z2 z3 i0 i1 i2 i3 y0 y1 y2 y3
  clear hm
  obtain ⟨x0, x1, x2, x3⟩ := HBc2.out _ HMj2.out
  obtain ⟨z0, z1, z2, z3⟩ := HEc2.out _ HMj2.out
  obtain ⟨i0, i1, i2, i3⟩ := HIc.out _ HMj2.out
  obtain ⟨y0, y1, y2, y3⟩ := HYc.out _ HMj2.out
  go_wp2_with fail
  refine (equal_lnG (some ⟨gY, 0, none⟩) B p (p + 3) q x.ls _ (HYq.out _ (by repeat (first | exact HMj2.out | exact Mor.refl _ | apply Mor.alloc | apply Mor.more | apply Mor.drewN | apply Mor.drew))).si (HX.out.mor (HM0.out.trans' (HMS.out.trans' (by repeat (first | exact HMj2.out | exact Mor.refl _ | apply Mor.alloc | apply Mor.more | apply Mor.drewN | apply Mor.drew))))).si HX.out.length l4).mono ?_
  rintro e j3 ⟨rfl, hm⟩
  have HMj3 := Lib.hid (show Mor wS j3 from Mor.trans' (by repeat (first | exact HMj2.out | exact Mor.refl _ | apply Mor.alloc | apply Mor.more | apply Mor.drewN | apply Mor.drew)) hm)
  have HSj3 := Lib.hid (show Mor j2 j3 from Mor.trans' (by repeat (first | exact (Mor.refl j2) | exact Mor.refl _ | apply Mor.alloc | apply Mor.more | apply Mor.drewN | apply Mor.drew)) hm)
  clear x0 x1 x2 x3 z0 z1 z2 z3 i0 i1 i2 i3 y0 y1 y2 y3
  clear hm
  obtain ⟨x0, x1, x2, x3⟩ := HBc2.out _ HMj3.out
  obtain ⟨z0, z1, z2, z3⟩ := HEc2.out _ HMj3.out
  obtain ⟨i0, i1, i2, i3⟩ := HIc.out _ HMj3.out
  obtain ⟨y0, y1, y2, y3⟩ := HYc.out _ HMj3.out
  go_wp2_with fail
  refine (marked_ln gY p (flat pc x.ls) { data := #[] } 78 _ (HYb.out.below (show Mor wS _ from (by repeat (first | exact HMj3.out | exact Mor.refl _ | apply Mor.alloc | apply Mor.more | apply Mor.drewN | apply Mor.drew))).below HYb.out.lt) (by rw [flat_len pc 2 pc_len, HX.out.length]) (by omega)).mono ?_
  rintro e j4 ⟨rfl, hm⟩
  have HMj4 := Lib.hid (show Mor wS j4 from Mor.trans' (by repeat (first | exact HMj3.out | exact Mor.refl _ | apply Mor.alloc | apply Mor.more | apply Mor.drewN | apply Mor.drew)) hm)
  have HSj4 := Lib.hid (show Mor j3 j4 from Mor.trans' (by repeat (first | exact (Mor.refl j3) | exact Mor.refl _ | apply Mor.alloc | apply Mor.more | apply Mor.drewN | apply Mor.drew)) hm)
  clear x0 x1 x2 x3 z0 z1 z2 z3 i0 i1 i2 i3 y0 y1 y2 y3
  clear hm
  obtain ⟨x0, x1, x2, x3⟩ := HBc2.out _ HMj4.out
  obtain ⟨z0, z1, z2, z3⟩ := HEc2.out _ HMj4.out
  obtain ⟨i0, i1, i2, i3⟩ := HIc.out _ HMj4.out
  obtain ⟨y0, y1, y2, y3⟩ := HYc.out _ HMj4.out
  go_wp2_with fail
  refine (equalG_pl (some ⟨gL, 0, none⟩) L p2 (p2 + 3) q2 ps _ (HPq.out _ (by repeat (first | exact HMj4.out | exact Mor.refl _ | apply Mor.alloc | apply Mor.more | apply Mor.drewN | apply Mor.drew))) (HP.out.mor (HM0.out.trans' (HMS.out.trans' (by repeat (first | exact HMj4.out | exact Mor.refl _ | apply Mor.alloc | apply Mor.more | apply Mor.drewN | apply Mor.drew))))) HPn.out (by omega)).mono ?_
  rintro e j5 ⟨rfl, hm⟩
  have HMj5 := Lib.hid (show Mor wS j5 from Mor.trans' (by repeat (first | exact HMj4.out | exact Mor.refl _ | apply Mor.alloc | apply Mor.more | apply Mor.drewN | apply Mor.drew)) hm)
  have HSj5 := Lib.hid (show Mor j4 j5 from Mor.trans' (by repeat (first | exact (Mor.refl j4) | exact Mor.refl _ | apply Mor.alloc | apply Mor.more | apply Mor.drewN | apply Mor.drew)) hm)
  clear x0 x1 x2 x3 z0 z1 z2 z3 i0 i1 i2 i3 y0 y1 y2 y3
  clear hm
  obtain ⟨x0, x1, x2, x3⟩ := HBc2.out _ HMj5.out
  obtain ⟨z0, z1, z2, z3⟩ := HEc2.out _ HMj5.out
  obtain ⟨i0, i1, i2, i3⟩ := HIc.out _ HMj5.out
  obtain ⟨y0, y1, y2, y3⟩ := HYc.out _ HMj5.out
  go_wp2_with fail
  refine (marked_pl gL p2 (flat pl7 ps) { data := #[109, 97, 114, 107] } 0 0 0 0 { data := #[] } { data := #[] } _ (HLb.out.below (show Mor wS _ from (by repeat (first | exact HMj5.out | exact Mor.refl _ | apply Mor.alloc | apply Mor.more | apply Mor.drewN | apply Mor.drew))).below HLb.out.lt) (by rw [flat_len pl7 7 pl7_len, HPn.out]) (by omega)).mono ?_
  rintro e j6 ⟨rfl, hm⟩
  have HMj6 := Lib.hid (show Mor wS j6 from Mor.trans' (by repeat (first | exact HMj5.out | exact Mor.refl _ | apply Mor.alloc | apply Mor.more | apply Mor.drewN | apply Mor.drew)) hm)
  have HSj6 := Lib.hid (show Mor j5 j6 from Mor.trans' (by repeat (first | exact (Mor.refl j5) | exact Mor.refl _ | apply Mor.alloc | apply Mor.more | apply Mor.drewN | apply Mor.drew)) hm)
  clear x0 x1 x2 x3 z0 z1 z2 z3 i0 i1 i2 i3 y0 y1 y2 y3
  clear hm
  obtain ⟨x0, x1, x2, x3⟩ := HBc2.out _ HMj6.out
  obtain ⟨z0, z1, z2, z3⟩ := HEc2.out _ HMj6.out
  obtain ⟨i0, i1, i2, i3⟩ := HIc.out _ HMj6.out
  obtain ⟨y0, y1, y2, y3⟩ := HYc.out _ HMj6.out
  go_wp2_with fail
  go_loopw [167] (fun i wr => ∃ r : Nat, r ≤ m ∧ i = .int .i64 r ∧ Hid (Mor j6 wr)) (fun i _ => m - (intOf i).toNat)
  case atStart => exact ⟨0, Nat.zero_le _, rfl, Lib.hid (Mor.refl _)⟩
  case round =>
    clear x0 x1 x2 x3 z0 z1 z2 z3 i0 i1 i2 i3 y0 y1 y2 y3
    obtain ⟨r, hr, rfl, HMr0⟩ := hrel
    have HMr := Lib.hid (HMj6.out.trans' HMr0.out)
    by_cases hlt : r < m
    · have hki : (r : Int) < (m : Int) := by omega
      have hk0 : (0 : Int) ≤ (r : Int) := by omega
      have HKr := Lib.hid (HKS.out.mor HMr.out)
      obtain ⟨gX, kX, hX, hgB, hgl, f0, f1, f2⟩ := own_ent HKr.out.row HKr.out.ql r hlt
      injection hX with hX1 _ hX3
      subst hX1 hX3
      have hE := HKr.out.ent r hlt
      have hrow := hE.row
      have hlen := hE.len
      have hle := HL3.out (ne b.en r) (by rw [ne_eq _ _ (by rw [HKr.out.el]; exact hlt)]; exact List.getElem_mem _)
      rw [hlen] at hle
      obtain ⟨gE, hA, -⟩ := hrow
      injection hA with hA1 _ hA3
      have hrw := hE.row
      rw [hA1, hA3] at hrw f2
      have HMk := Lib.hid (fun w' (h : Mor wr w') => marked_ln gE (qe qs r).n (flat pc (ne b.en r).ls) { data := #[] } 78 w' (hrw.blk.below h.below hrw.blk.lt) (by rw [flat_len pc 2 pc_len, hlen]) (by omega))
      generalize (qe qs r).n = qn at *
      generalize (qe qs r).key = qk at *
      generalize (qe qs r).day = qd at *
      clear hE hrw hA1 hA3 hgB hlen
      go_wp2_with fail
      refine (HMk.out _ (by repeat (first | exact Mor.refl _ | apply Mor.alloc | apply Mor.more | apply Mor.drewN | apply Mor.drew))).mono ?_
      rintro e w5 ⟨rfl, hm⟩
      have HM5 := Lib.hid (HMr0.out.trans' (Mor.trans' (by repeat (first | exact Mor.refl _ | apply Mor.alloc | apply Mor.more | apply Mor.drewN | apply Mor.drew)) hm))
      clear hm f0 f1 f2 hgl
      go_wp2_with fail
      go_roundw
      case rel => exact ⟨r + 1, by omega, by go_num, HM5⟩
      case measure => simp [intOf]; omega
    · obtain rfl : r = m := by omega
      have HZj6 := HMr0
      have HZj5 := Lib.hid (show Mor j5 wr from HSj6.out.trans' HZj6.out)
      have HZj4 := Lib.hid (show Mor j4 wr from HSj5.out.trans' HZj5.out)
      have HZj3 := Lib.hid (show Mor j3 wr from HSj4.out.trans' HZj4.out)
      have HZj2 := Lib.hid (show Mor j2 wr from HSj3.out.trans' HZj3.out)
      have HZj1 := Lib.hid (show Mor j1 wr from HSj2.out.trans' HZj2.out)
      have HZvw10 := Lib.hid (show Mor vw10 wr from HSj1.out.trans' HZj1.out)
      have HZuw10 := Lib.hid (show Mor uw10 wr from HSvw10.out.trans' HZvw10.out)
      have HZvw9 := Lib.hid (show Mor vw9 wr from HSuw10.out.trans' HZuw10.out)
      have HZuw9 := Lib.hid (show Mor uw9 wr from HSvw9.out.trans' HZvw9.out)
      have HZvw8 := Lib.hid (show Mor vw8 wr from HSuw9.out.trans' HZuw9.out)
      have HZuw8 := Lib.hid (show Mor uw8 wr from HSvw8.out.trans' HZvw8.out)
      have HZvw7 := Lib.hid (show Mor vw7 wr from HSuw8.out.trans' HZuw8.out)
      have HZuw7 := Lib.hid (show Mor uw7 wr from HSvw7.out.trans' HZvw7.out)
      have HZvw6 := Lib.hid (show Mor vw6 wr from HSuw7.out.trans' HZuw7.out)
      have HZuw6 := Lib.hid (show Mor uw6 wr from HSvw6.out.trans' HZvw6.out)
      have HZvw5 := Lib.hid (show Mor vw5 wr from HSuw6.out.trans' HZuw6.out)
      have HZuw5 := Lib.hid (show Mor uw5 wr from HSvw5.out.trans' HZvw5.out)
      have HZvw4 := Lib.hid (show Mor vw4 wr from HSuw5.out.trans' HZuw5.out)
      have HZuw4 := Lib.hid (show Mor uw4 wr from HSvw4.out.trans' HZvw4.out)
      have HZvw3 := Lib.hid (show Mor vw3 wr from HSuw4.out.trans' HZuw4.out)
      have HZuw3 := Lib.hid (show Mor uw3 wr from HSvw3.out.trans' HZvw3.out)
      have HZuw2 := Lib.hid (show Mor uw2 wr from HSuw3.out.trans' HZuw3.out)
      have HZuw1 := Lib.hid (show Mor uw1 wr from HSuw2.out.trans' HZuw2.out)
      have ht := HCvw3.out wr HZvw3.out
      have t0 := ht.cell 0
      have t1 := ht.cell 1
      have t2 := ht.cell 2
      have tl := ht.lt
      simp at t0 t1 t2
      have hg := HCvw4.out wr HZvw4.out
      have g0 := hg.cell 0
      have g1 := hg.cell 1
      have g2 := hg.cell 2
      have gl := hg.lt
      simp at g0 g1 g2
      have ha := HCvw5.out wr HZvw5.out
      have a0 := ha.cell 0
      have a1 := ha.cell 1
      have a2 := ha.cell 2
      have al := ha.lt
      simp at a0 a1 a2
      have hb := HCvw6.out wr HZvw6.out
      have b0 := hb.cell 0
      have b1 := hb.cell 1
      have b2 := hb.cell 2
      have bl := hb.lt
      simp at b0 b1 b2
      have hc := HCvw7.out wr HZvw7.out
      have c0 := hc.cell 0
      have c1 := hc.cell 1
      have c2 := hc.cell 2
      have cl := hc.lt
      simp at c0 c1 c2
      have hd := HCvw8.out wr HZvw8.out
      have d0 := hd.cell 0
      have d1 := hd.cell 1
      have d2 := hd.cell 2
      have dl := hd.lt
      simp at d0 d1 d2
      have he := HCvw9.out wr HZvw9.out
      have e0 := he.cell 0
      have e1 := he.cell 1
      have e2 := he.cell 2
      have el := he.lt
      simp at e0 e1 e2
      have hf := HCvw10.out wr HZvw10.out
      have f0 := hf.cell 0
      have f1 := hf.cell 1
      have f2 := hf.cell 2
      have fl := hf.lt
      simp at f0 f1 f2
      clear ht hg ha hb hc hd he hf
      go_wp2_with fail
      obtain ⟨q51, hz51⟩ := OwnZ.of HO51.out
      have HZz51 := Lib.hid hz51
      clear hz51
      obtain ⟨q52, hz52⟩ := OwnZ.of HO52.out
      have HZz52 := Lib.hid hz52
      clear hz52
      obtain ⟨q53, hz53⟩ := OwnZ.of HO53.out
      have HZz53 := Lib.hid hz53
      clear hz53
      obtain ⟨q54, hz54⟩ := OwnZ.of HO54.out
      have HZz54 := Lib.hid hz54
      clear hz54
      obtain ⟨q55, hz55⟩ := OwnZ.of HO55.out
      have HZz55 := Lib.hid hz55
      clear hz55
      obtain ⟨q56, hz56⟩ := OwnZ.of HO56.out
      have HZz56 := Lib.hid hz56
      clear hz56
      clear t0 t1 t2 tl g0 g1 g2 gl a0 a1 a2 al b0 b1 b2 bl c0 c1 c2 cl d0 d1 d2 dl e0 e1 e2 el f0 f1 f2 fl
      obtain ⟨wq, hwq⟩ : ∃ wq, wq = (wr.alloc (.cells #[.slice A51 n51 c51, .slice X51 m51 k51, .int .i64 y51.shut, .slice A52 n52 c52, .slice X52 m52 k52, .int .i64 y52.shut, .slice A53 n53 c53, .slice X53 m53 k53, .int .i64 y53.shut, .slice A54 n54 c54, .slice X54 m54 k54, .int .i64 y54.shut, .slice A55 n55 c55, .slice X55 m55 k55, .int .i64 y55.shut, .slice A56 n56 c56, .slice X56 m56 k56, .int .i64 y56.shut] 25)).alloc (.cells #[.string sT, .int .i64 dT, .slice AT nT cT, .string sG, .int .i64 dG, .slice AG nG cG] 28) := ⟨_, rfl⟩
      obtain ⟨L', hL⟩ : ∃ L' : List Bz, L' = [⟨A51, n51, c51, X51, m51, k51, y51, q51⟩, ⟨A52, n52, c52, X52, m52, k52, y52, q52⟩, ⟨A53, n53, c53, X53, m53, k53, y53, q53⟩, ⟨A54, n54, c54, X54, m54, k54, y54, q54⟩, ⟨A55, n55, c55, X55, m55, k55, y55, q55⟩, ⟨A56, n56, c56, X56, m56, k56, y56, q56⟩] := ⟨_, rfl⟩
      have hcb := (Bk.new wr 25 #[.slice A51 n51 c51, .slice X51 m51 k51, .int .i64 y51.shut, .slice A52 n52 c52, .slice X52 m52 k52, .int .i64 y52.shut, .slice A53 n53 c53, .slice X53 m53 k53, .int .i64 y53.shut, .slice A54 n54 c54, .slice X54 m54 k54, .int .i64 y54.shut, .slice A55 n55 c55, .slice X55 m55 k55, .int .i64 y55.shut, .slice A56 n56 c56, .slice X56 m56 k56, .int .i64 y56.shut]).alloc (.cells #[.string sT, .int .i64 dT, .slice AT nT cT, .string sG, .int .i64 dG, .slice AG nG cG] 28)
      have hce := Bk.new (wr.alloc (.cells #[.slice A51 n51 c51, .slice X51 m51 k51, .int .i64 y51.shut, .slice A52 n52 c52, .slice X52 m52 k52, .int .i64 y52.shut, .slice A53 n53 c53, .slice X53 m53 k53, .int .i64 y53.shut, .slice A54 n54 c54, .slice X54 m54 k54, .int .i64 y54.shut, .slice A55 n55 c55, .slice X55 m55 k55, .int .i64 y55.shut, .slice A56 n56 c56, .slice X56 m56 k56, .int .i64 y56.shut] 25)) 28 #[.string sT, .int .i64 dT, .slice AT nT cT, .string sG, .int .i64 dG, .slice AG nG cG]
      rw [szAl] at hce
      have hmq : Mor wr wq := by rw [hwq]; exact (Mor.refl wr).alloc.alloc
      rw [← hwq] at hcb hce ⊢
      obtain ⟨bS, hbS⟩ : ∃ g, g = wr.heap.size := ⟨_, rfl⟩
      obtain ⟨bT, hbT⟩ : ∃ g, g = wr.heap.size + 1 := ⟨_, rfl⟩
      rw [← hbS] at hcb
      rw [← hbT] at hce
      rw [← hbT, ← hbS]
      have HBS := Lib.hid (show wr.heap.size ≤ bS by omega)
      have HBT := Lib.hid (show bS < bT by omega)
      have HMq0 := Lib.hid hmq
      have hcb2 : Bk wq bS 25 (flat bz L').toArray := by rw [hL]; exact hcb
      have hLl : L'.length = 6 := by rw [hL]; rfl
      have HLl := Lib.hid hLl
      have HCB := Lib.hid hcb2
      have HCE := Lib.hid hce
      have HcB := Lib.hid (fun w' (h : Mor wq w') (i : Nat) (hi : i < 6) => show w'.cell? ⟨bS, i * 3, none⟩ = some (.slice (nz L' i).A (nz L' i).n (nz L' i).c) ∧ w'.cell? ⟨bS, i * 3 + 1, none⟩ = some (.slice (nz L' i).X (nz L' i).m (nz L' i).k) ∧ w'.cell? ⟨bS, i * 3 + 2, none⟩ = some (.int .i64 (nz L' i).y.shut) ∧ bS < w'.heap.size from by
        have hb := HCB.out.mor h
        refine ⟨?_, ?_, ?_, hb.lt⟩
        · rw [hb.cell, hL]
          match i, hi with
          | 0, _ => rfl
          | 1, _ => rfl
          | 2, _ => rfl
          | 3, _ => rfl
          | 4, _ => rfl
          | 5, _ => rfl
        · rw [hb.cell, hL]
          match i, hi with
          | 0, _ => rfl
          | 1, _ => rfl
          | 2, _ => rfl
          | 3, _ => rfl
          | 4, _ => rfl
          | 5, _ => rfl
        · rw [hb.cell, hL]
          match i, hi with
          | 0, _ => rfl
          | 1, _ => rfl
          | 2, _ => rfl
          | 3, _ => rfl
          | 4, _ => rfl
          | 5, _ => rfl)
      obtain ⟨S, hS⟩ : ∃ S : List Nat, S = [vw4.heap.size, vw5.heap.size, vw6.heap.size, vw7.heap.size, vw8.heap.size, vw9.heap.size, uw10.heap.size] := ⟨_, rfl⟩
      have HAp := Lib.hid (show ApartZ L' S 6 wq from by
        rw [hL, hS]; intro k hk
        match k, hk with
        | 0, _ => exact ⟨HZz51.out.mor (HZuw5.out.trans' hmq), fun b hb => Nat.lt_of_lt_of_le (HZz51.out.lt hb).2 HSvw5.out.below.size, HF51.out, Nat.le_trans HSuw5.out.below.size HSvw5.out.below.size⟩
        | 1, _ => exact ⟨HZz52.out.mor (HZuw6.out.trans' hmq), fun b hb => Nat.lt_of_lt_of_le (HZz52.out.lt hb).2 HSvw6.out.below.size, HF52.out, Nat.le_trans HSuw6.out.below.size HSvw6.out.below.size⟩
        | 2, _ => exact ⟨HZz53.out.mor (HZuw7.out.trans' hmq), fun b hb => Nat.lt_of_lt_of_le (HZz53.out.lt hb).2 HSvw7.out.below.size, HF53.out, Nat.le_trans HSuw7.out.below.size HSvw7.out.below.size⟩
        | 3, _ => exact ⟨HZz54.out.mor (HZuw8.out.trans' hmq), fun b hb => Nat.lt_of_lt_of_le (HZz54.out.lt hb).2 HSvw8.out.below.size, HF54.out, Nat.le_trans HSuw8.out.below.size HSvw8.out.below.size⟩
        | 4, _ => exact ⟨HZz55.out.mor (HZuw9.out.trans' hmq), fun b hb => Nat.lt_of_lt_of_le (HZz55.out.lt hb).2 HSvw9.out.below.size, HF55.out, Nat.le_trans HSuw9.out.below.size HSvw9.out.below.size⟩
        | 5, _ => exact ⟨HZz56.out.mor (HZuw10.out.trans' hmq), fun b hb => (HZz56.out.lt hb).2, HF56.out, HSuw10.out.below.size⟩)
      have HS0 := Lib.hid (show S.getD 0 0 = vw4.heap.size by rw [hS]; rfl)
      have HS6 := Lib.hid (show S.getD 6 0 = uw10.heap.size by rw [hS]; rfl)
      clear hwq hL hS hcb hce hcb2 hmq hbS hbT hLl
      obtain ⟨i0, hi0, hz0, hz1, hz2⟩ := info_parts info_book
      go_loopw [39, 189] (fun v i wr => ∃ k : Nat, k ≤ 6 ∧ i = .int .i64 k ∧ (∃ A' c', v = .slice A' k c') ∧ Hid (∃ W : List Bz, W.length = k ∧ wr.ownsRow wq.heap.size 25 3 v k (flat bz W) ∧ (∀ j, j < k → OwnZ wr wq.heap.size (nz W j) ∧ (nz W j).y = (nz L' j).y ∧ (nz W j).n = (nz L' j).n ∧ (nz W j).m = (nz L' j).m)) ∧ Hid (Mor wq wr)) (fun _ i _ => 6 - (intOf i).toNat)
      case atStart => exact ⟨0, by omega, rfl, ⟨none, 0, rfl⟩, Lib.hid ⟨[], rfl, World.ownsRow_nil _ _ _ _, fun j hj => absurd hj (Nat.not_lt_zero _)⟩, Lib.hid (Mor.refl _)⟩
      case round =>
        obtain ⟨k', hk', rfl, ⟨A', c', rfl⟩, HQ, HMq⟩ := hrel
        by_cases hlt : k' < 6
        · have hki : (k' : Int) < 6 := by omega
          have hk0 : (0 : Int) ≤ (k' : Int) := by omega
          obtain ⟨f0, f1, f2, fl⟩ := HcB.out wr (HMq.out) k' hlt
          obtain ⟨p1, p2', p3, p4⟩ := HAp.out k' hlt
          have HZk := Lib.hid (p1.mor HMq.out)
          have HFk := Lib.hid p3
          clear p1 p2' p3 p4
          obtain ⟨zz, hzz⟩ : ∃ zz, zz = nz L' k' := ⟨_, rfl⟩
          rw [← hzz] at f0 f1 f2 HZk HFk
          have HEz := Lib.hid hzz
          clear hzz
          obtain ⟨zA, zn, zc, zX, zm, zk, zy, zq⟩ := zz
          simp only at f0 f1 f2
          obtain ⟨e1, e2, e3⟩ := HFk.out
          have HKz := Lib.hid (fun w' (h : Mor wr w') => show Calls Tryz.prog 5 #[.agg #[.slice zA zn zc, .slice zX zm zk, .int .i64 zy.shut]] w' (fun e w2 => ∃ vA vX qs, e = .returned (.agg #[vA, vX, .int .i64 zy.shut]) ∧ OwnBk w2 w'.heap.size vA vX zn zm zy qs ∧ Mor w' w2) from
            kopied_any zA zn zc zX zm zk zy w' (HZk.out.bq.mor h) (by have := HZk.out.bq.ac.length; simp only at this e1; omega) (by have := HZk.out.bq.length; simp only at this e2; omega) (fun x hx => by have := e3 x hx; omega))
          clear e1 e2 e3
          go_wp2_with fail
          refine (HKz.out _ (by repeat (first | exact Mor.refl _ | apply Mor.alloc | apply Mor.more | apply Mor.drewN | apply Mor.drew))).mono ?_
          rintro e wf ⟨vA, vX, qz, rfl, hKz, hm⟩
          obtain ⟨gz, hvA, -⟩ := hKz.ac
          subst hvA
          obtain ⟨Xz, kz, hvX, -, -, -⟩ := own_shape hKz.row
          subst hvX
          have HMf := Lib.hid (show Mor wr wf from Mor.trans' (by repeat (first | exact Mor.refl _ | apply Mor.alloc | apply Mor.more | apply Mor.drewN | apply Mor.drew)) hm)
          have HYf := Lib.hid (HMq.out.trans' HMf.out)
          have HOf := Lib.hid (hKz.z.base (show wq.heap.size ≤ _ by have := HMq.out.below.size; rw [szAl]; omega))
          clear hKz hm f0 f1 f2 fl HKz
          obtain ⟨W, hq1, hq2, hq3⟩ := HQ.out
          have HQ1 := Lib.hid hq1
          have HQ2 := Lib.hid hq2
          have HQ3 := Lib.hid hq3
          clear HQ hq1 hq2 hq3
          go_wp2_with (at_builtin; refine wpList_append_own _ rfl _ _ 63 rfl wq.heap.size 25 i0 (.agg #[.slice none 0 0, .slice none 0 0, .int .i64 0]) 3 56 Tryz.underlying63 hi0 hz0 hz1 hz2 rfl (by decide) _ _ _ rfl ((own_mor HQ2.out HMf.out).alloc _) ⟨wf.heap.size, 0, none⟩ 1 1 [.slice (some ⟨gz, 0, none⟩) zn (zn + 3), .slice Xz zm kz, .int .i64 zy.shut] rfl rfl ?_ ?_ ?_ ?_ ?_ ?_)
          · exact lit_at [.slice (some ⟨gz, 0, none⟩) zn (zn + 3), .slice Xz zm kz, .int .i64 zy.shut] _ _ rfl rfl
          · intro u hu; simp at hu; rcases hu with rfl | rfl | rfl <;> rfl
          · unfold maxLen; omega
          · omega
          · have := HYf.out.below.size; simp; omega
          · intro v5 w5 hown hgrow _
            obtain ⟨nb, hnb⟩ : ∃ nb : Bz, nb = ⟨some ⟨gz, 0, none⟩, zn, zn + 3, Xz, zm, kz, zy, qz⟩ := ⟨_, rfl⟩
            have hold : (wf.alloc (.cells #[.slice (some ⟨gz, 0, none⟩) zn (zn + 3), .slice Xz zm kz, .int .i64 zy.shut] 25)).ownsRow wq.heap.size 25 3 (.slice A' k' c') k' (flat bz W) := (own_mor HQ2.out HMf.out).alloc _
            have HM5 := Lib.hid (own_step hold (HYf.out.trans' (Mor.refl _).alloc) hgrow)
            have HR5 := Lib.hid (show w5.ownsRow wq.heap.size 25 3 v5 (k' + 1) (flat bz (W ++ [nb])) by rw [flat_snoc, hnb]; exact hown)
            have HX5 := Lib.hid (show ∀ j, j < k' + 1 → OwnZ w5 wq.heap.size (nz (W ++ [nb]) j) ∧ (nz (W ++ [nb]) j).y = (nz L' j).y ∧ (nz (W ++ [nb]) j).n = (nz L' j).n ∧ (nz (W ++ [nb]) j).m = (nz L' j).m from by
              intro j hj
              have hq1 := HQ1.out
              by_cases hjk : j < k'
              · rw [nz_old _ _ _ (by omega)]
                obtain ⟨t1, t2, t3⟩ := HQ3.out j hjk
                exact ⟨((t1.mor HMf.out).mor (Mor.refl _).alloc).grows hold hgrow, t2, t3⟩
              · obtain rfl : j = W.length := by omega
                rw [nz_last, hq1, ← HEz.out, hnb]
                exact ⟨(HOf.out.mor (Mor.refl _).alloc).grows hold hgrow, rfl, rfl, rfl⟩)
            obtain ⟨A5, c5, rfl, -, -, -⟩ := own_shape hown
            clear hown hgrow hold hnb
            go_wp2_with fail
            go_roundw
            case rel => exact ⟨k' + 1, by omega, by go_num, ⟨_, _, rfl⟩, Lib.hid ⟨_, by simp [HQ1.out], HR5.out, HX5.out⟩, HM5⟩
            case measure => simp [intOf]; omega
        · obtain rfl : k' = 6 := by omega
          obtain ⟨wB, rfl⟩ : ∃ wB, wB = wr := ⟨_, rfl⟩
          obtain ⟨W, hq1, hq2, hq3⟩ := HQ.out
          have HQ1 := Lib.hid hq1
          have HQ2 := Lib.hid hq2
          have HQ3 := Lib.hid hq3
          clear HQ hq1 hq2 hq3
          go_wp2_with fail
          have HYB := Lib.hid (show Mor wq wB from HMq.out)
          have HTc := Lib.hid (fun w' (h : Mor wB w') => show w'.cell? ⟨gT, 2, none⟩ = some (.slice AT nT cT) ∧ w'.cell? ⟨gG, 2, none⟩ = some (.slice AG nG cG) from
            ⟨by rw [(HCvw3.out w' (HZvw3.out.trans' (HMq0.out.trans' (HYB.out.trans' h)))).cell]; rfl, by rw [(HCvw4.out w' (HZvw4.out.trans' (HMq0.out.trans' (HYB.out.trans' h)))).cell]; rfl⟩)
          have HTo2 := Lib.hid (fun w' (h : Mor wB w') => clone_own_ln (own_mor HTo.out (HZuw3.out.trans' (HMq0.out.trans' (HYB.out.trans' h)))) HTl.out HTn.out)
          have HGo2 := Lib.hid (fun w' (h : Mor wB w') => clone_own_ln (own_mor HGo.out (HZuw4.out.trans' (HMq0.out.trans' (HYB.out.trans' h)))) HGl.out HGn.out)
          obtain ⟨tk0, tk1⟩ := HTc.out wB (Mor.refl _)
          have tl0 : gT < wB.heap.size := (HCvw3.out wB (HZvw3.out.trans' (HMq0.out.trans' HYB.out))).lt
          have tl1 : gG < wB.heap.size := (HCvw4.out wB (HZvw4.out.trans' (HMq0.out.trans' HYB.out))).lt
          go_cut [42] (fun s40 wx => Hid (∃ bL DT dT' DG dG', s40 = .slice (some ⟨bL, 0, none⟩) 2 2 ∧ wB.heap.size ≤ bL ∧ Bk wx bL 26 #[.slice DT nT dT', .slice DG nG dG'] ∧ wx.ownsRow wB.heap.size 34 2 (.slice DT nT dT') nT (flat pc lT) ∧ wx.ownsRow wB.heap.size 34 2 (.slice DG nG dG') nG (flat pc lG) ∧ Mor wB wx))
          case first =>
            go_region_held3 (fun w' => w'.cell? ⟨gT, 2, none⟩ = some (.slice AT nT cT) ∧ w'.cell? ⟨gG, 2, none⟩ = some (.slice AG nG cG)) (first | exact HTc.out _ (by repeat (first | exact Mor.refl _ | exact HXc2.out | exact HXc1.out | apply Mor.alloc | apply Mor.more | apply Mor.drewN | apply Mor.drew))) (first
              | (go_at_call 24; (with_reducible refine (HTo2.out _ (by repeat (first | exact Mor.refl _ | exact HXc2.out | exact HXc1.out | apply Mor.alloc | apply Mor.more | apply Mor.drewN | apply Mor.drew))).mono ?_); rintro e wc1 ⟨D1, d1, rfl, ho1, hm1⟩; have HXc1 := Lib.hid (show Mor wB wc1 from Mor.trans' (by repeat (first | exact Mor.refl _ | exact HXc2.out | exact HXc1.out | apply Mor.alloc | apply Mor.more | apply Mor.drewN | apply Mor.drew)) hm1); have HOc1 := Lib.hid (show wc1.ownsRow wB.heap.size 34 2 (.slice D1 nT d1) nT (flat pc lT) from own_base ho1 (show wB.heap.size ≤ _ from (show Mor wB _ from (by repeat (first | exact Mor.refl _ | exact HXc2.out | exact HXc1.out | apply Mor.alloc | apply Mor.more | apply Mor.drewN | apply Mor.drew))).below.size)); clear ho1 hm1)
              | (go_at_call 24; (with_reducible refine (HGo2.out _ (by repeat (first | exact Mor.refl _ | exact HXc2.out | exact HXc1.out | apply Mor.alloc | apply Mor.more | apply Mor.drewN | apply Mor.drew))).mono ?_); rintro e wc2 ⟨D2, d2, rfl, ho2, hm2⟩; have HWc2 := Lib.hid (show Mor wc1 wc2 from Mor.trans' (by repeat (first | exact Mor.refl _ | apply Mor.alloc | apply Mor.more | apply Mor.drewN | apply Mor.drew)) hm2); have HXc2 := Lib.hid (show Mor wB wc2 from HXc1.out.trans' HWc2.out); have HOc2 := Lib.hid (show wc2.ownsRow wB.heap.size 34 2 (.slice D2 nG d2) nG (flat pc lG) from own_base ho2 (show wB.heap.size ≤ _ from (show Mor wB _ from (by repeat (first | exact Mor.refl _ | exact HXc2.out | exact HXc1.out | apply Mor.alloc | apply Mor.more | apply Mor.drewN | apply Mor.drew))).below.size)); clear ho2 hm2))
            all_goals (go_wp2_with fail)
            all_goals go_meet
            all_goals exact Lib.hid ⟨wc2.heap.size, D1, d1, D2, d2, rfl, HXc2.out.below.size, Bk.new wc2 _ _, own_mor (own_mor HOc1.out HWc2.out) (Mor.refl _).alloc, own_mor HOc2.out (Mor.refl _).alloc, HXc2.out.alloc⟩
          case rest =>
            obtain ⟨bLs, DT, dT', DG, dG', rfl, hbl, hbk, hoT, hoG, hmc⟩ := hcut.out
            have HBLs := Lib.hid hbl
            have HBLk := Lib.hid hbk
            have HDT := Lib.hid hoT
            have HDG := Lib.hid hoG
            have HMc := Lib.hid hmc
            clear hcut hbl hbk hoT hoG hmc tk0 tk1 tl0 tl1
            have HSc := Lib.hid (show Mor uw2 wc from HZuw2.out.trans' (HMq0.out.trans' (HYB.out.trans' HMc.out)))
            have HU2 := Lib.hid (own_mor HU.out HSc.out)
            have hUz : U = none → nU = 0 := fun e => by
              obtain ⟨_, ⟨_, h⟩ | ⟨g, cap, cur, hv, _⟩⟩ := HU.out
              · exact h
              · injection hv with h2 _ _; rw [e] at h2; cases h2
            have hUn := HUn.out
            go_wp2_with fail
            refine (clone_strs U nU kU (us.map Value.string) wc (Rd.own HU2.out) (by rw [List.length_map, HUl.out]) (by intro u hu; simp at hu; obtain ⟨_, _, rfl⟩ := hu; rfl) hUz (by omega)).mono ?_
            rintro e wd ⟨vU, rfl, ho, hm⟩
            obtain ⟨VU, dU, rfl, -, -, -⟩ := own_shape ho
            have HVU := Lib.hid ho
            have HMd := Lib.hid hm
            have HSd := Lib.hid (show Mor uw2 wd from HSc.out.trans' hm)
            have HWSd := Lib.hid (show Mor wS wd from HMuw2.out.trans' HSd.out)
            clear ho hm hUz hUn
            have HKd := Lib.hid ((HKS.out.mor HWSd.out).z)
            obtain ⟨zI, hzI⟩ : ∃ zI : Bz, zI = Bz.mk (some ⟨gA, 0, none⟩) n (n + 3) AX r cX b qs := ⟨_, rfl⟩
            rw [← hzI] at HKd HIlt
            have HSp := Lib.hid (show Calls Tryz.prog 26 #[.agg #[.slice (some ⟨gA, 0, none⟩) n (n + 3), .slice AX r cX, .int .i64 sh]] wd (fun e w' => e = .returned (.tuple #[]) ∧ But zI.blk wd w') from by
              have h2 := spoilt_z HKd.out
              rw [hzI] at h2 ⊢
              rw [HSh.out]; exact h2)
            have HIge := Lib.hid (fun bb (hb : zI.blk bb) => (HKd.out.lt hb).1)
            obtain ⟨i0, i1, i2, i3⟩ := HIc.out wd HWSd.out
            go_wp2_with fail
            refine HSp.out.mono ?_
            rintro e we ⟨rfl, hb1⟩
            have HB1 := Lib.hid hb1
            clear hb1 i0 i1 i2 i3 HSp
            have hYk := blk_but (HcY.out wd HWSd.out) HB1.out (fun h => by have h1 := HIlt.out _ h; have h2 := HbY.out; omega)
            have y0 := Bk.cell hYk 0
            have y1 := Bk.cell hYk 1
            have y2 := Bk.cell hYk 2
            have yl := Bk.lt hYk
            simp at y0 y1 y2
            clear hYk
            have HYl := Lib.hid (blk_but (HYb.out.below HWSd.out.below HYb.out.lt) HB1.out (fun h => by have h1 := HIlt.out _ h; have h2 := HGY.out; omega))
            have HLl2 := Lib.hid (blk_but (HLb.out.below HWSd.out.below HLb.out.lt) HB1.out (fun h => by have h1 := HIlt.out _ h; have h2 := HGY.out; have h3 := HOrd.out.1; omega))
            go_wp2_with fail
            refine (spoil_ln gY p (p + 3) _ { data := #[] } 5 we HYl.out (by rw [List.size_toArray, room3_len, flat_len pc 2 pc_len, HX.out.length]; simp; omega) (by omega) (by unfold maxLen; omega)).mono ?_
            rintro e wg ⟨rfl, hg⟩
            have HLl3 := Lib.hid (show Blk wg gL 37 (room3 (flat pl7 ps) mkP).toArray from (hg.block gL HLl2.out.lt (by intro e; injection e with e; have h3 := HOrd.out.1; omega)).trans HLl2.out)
            have HB2 := Lib.hid (show But (fun bb => zI.blk bb ∨ bb = gY ∨ bb = gL) wd wg from (HB1.out.mono (fun bb h => .inl h)).grown hg (fun bb hb _ => .inr (.inl (by injection hb with hb; exact hb.symm))))
            clear hg y0 y1 y2 yl
            go_wp2_with fail
            refine (spoil_pl gL p2 (p2 + 3) _ { data := #[] } 0 0 0 0 { data := #[] } { data := #[] } wg HLl3.out (by rw [List.size_toArray, room3_len, flat_len pl7 7 pl7_len, HPn.out]; simp; omega) (by omega) (by unfold maxLen; omega)).mono ?_
            rintro e wh ⟨rfl, hg⟩
            have HB3 := Lib.hid (show But (fun bb => zI.blk bb ∨ bb = gY ∨ bb = gL) wd wh from HB2.out.grown hg (fun bb hb _ => .inr (.inr (by injection hb with hb; exact hb.symm))))
            clear hg
            have HPS := Lib.hid (show ∀ bb, wS.heap.size ≤ bb → ¬ (zI.blk bb ∨ bb = gY ∨ bb = gL) from fun bb h1 h => by
              have h2 := HOrd.out
              rcases h with h | h | h
              · have h3 := HIlt.out _ h
                have h4 := HGY.out
                omega
              · omega
              · omega)
            go_wp2_with fail
            have hS0 := HMuw1.out.below.size
            have HU3 := Lib.hid (own_but (own_mor HU2.out HMd.out) HB3.out (fun bb hb => HPS.out bb (by have h1 := (World.ownsRow.lt HU2.out bb hb).1; omega)))
            have hS1 := (HMuw2.out.trans' HSc.out).below.size
            have HVU3 := Lib.hid (own_but HVU.out HB3.out (fun bb hb => HPS.out bb (by have h1 := (World.ownsRow.lt HVU.out bb hb).1; omega)))
            have hUn := HUn.out
            clear hS0 hS1
            refine (equal_strs U VU nU kU dU us wh (Rd.own HU3.out) (Rd.own HVU3.out) HUl.out (by omega)).mono ?_
            rintro e wi ⟨rfl, hmi⟩
            have HMi := Lib.hid hmi
            clear hmi hUn
            have HQd := Lib.hid (show Mor wq wd from HYB.out.trans' (HMc.out.trans' HMd.out))
            have HSq := Lib.hid (show wS.heap.size ≤ S.getD 0 0 by rw [HS0.out]; exact HMvw4.out.below.size)
            have HSe := Lib.hid (show S.getD 6 0 ≤ bS by rw [HS6.out]; have h1 := HZuw10.out.below.size; have h2 := HBS.out; omega)
            have HSw := Lib.hid (show wS.heap.size ≤ S.getD 6 0 by rw [HS6.out]; exact HMuw10.out.below.size)
            have HSwq := Lib.hid (show bS < wq.heap.size from HCB.out.lt)
            have HApI := Lib.hid (show ApartZ L' S 6 wi from fun kk hk => by
              obtain ⟨h1, h2⟩ := HAp.out kk hk
              exact ⟨((h1.mor HQd.out).but HB3.out (fun bb hb => HPS.out bb (by
                have h3 := (h1.lt hb).1
                have h4 := HAp.out.le (Nat.zero_le kk) (Nat.le_of_lt hk)
                have h5 := HSq.out
                omega))).mor HMi.out, h2⟩)
            have HCBI := Lib.hid (show Bk wi bS 25 (flat bz L').toArray from Bk.mor (blk_but (HCB.out.mor HQd.out) HB3.out (HPS.out bS (by have h1 := HSe.out; have h2 := HSw.out; omega))) HMi.out)
            have HCEI := Lib.hid (show Bk wi bT 28 #[.string sT, .int .i64 dT, .slice AT nT cT, .string sG, .int .i64 dG, .slice AG nG cG] from Bk.mor (blk_but (HCE.out.mor HQd.out) HB3.out (HPS.out bT (by have h1 := HSe.out; have h2 := HSw.out; have h3 := HBT.out; omega))) HMi.out)
            have HWI := Lib.hid (own_mor (own_but (own_mor HQ2.out (HMc.out.trans' HMd.out)) HB3.out (fun bb hb => HPS.out bb (by have h1 := (World.ownsRow.lt HQ2.out bb hb).1; have h2 := HSwq.out; have h3 := HSe.out; have h4 := HSw.out; omega))) HMi.out)
            have HWx := Lib.hid (fun jj (hj : jj < 6) => ((((HQ3.out jj hj).1.mor (HMc.out.trans' HMd.out)).but HB3.out (fun bb hb => HPS.out bb (by have h1 := ((HQ3.out jj hj).1.lt hb).1; have h2 := HSwq.out; have h3 := HSe.out; have h4 := HSw.out; omega))).mor HMi.out))
            go_wp2_with fail
            go_loopw [223] (fun i wr => ∃ r' : Nat, r' ≤ 6 ∧ i = .int .i64 r' ∧ Hid (But (Zk L' r') wi wr)) (fun i _ => 6 - (intOf i).toNat)
            case atStart => exact ⟨0, by omega, rfl, Lib.hid (But.refl _ _)⟩
            case round =>
              obtain ⟨r', hr', rfl, HBk⟩ := hrel
              by_cases hlt : r' < 6
              · have hki : (r' : Int) < 6 := by omega
                have hk0 : (0 : Int) ≤ (r' : Int) := by omega
                have hZl : ∀ bb, Zk L' r' bb → bb < S.getD 6 0 := fun bb hb => by
                  have h1 := (HApI.out.lt hr' hb).2
                  have h2 := HApI.out.le hr' (Nat.le_refl 6)
                  omega
                have hcb := blk_but HCBI.out HBk.out (fun h => by have h1 := hZl _ h; have h2 := HSe.out; omega)
                obtain ⟨f0, f1, f2⟩ := bk_bz hcb r' (by rw [HLl.out]; exact hlt)
                have fl := Bk.lt hcb
                have hww := own_but HWI.out HBk.out (fun bb hb h => by
                  have h1 := hZl _ h
                  have h2 := (World.ownsRow.lt HQ2.out bb hb).1
                  have h3 := HSwq.out
                  have h4 := HSe.out
                  omega)
                obtain ⟨gW, cW, hW, hWB, wl, w0', w1', w2'⟩ := own_bz hww HQ1.out hlt
                injection hW with hW1 _ hW3
                subst hW1 hW3
                have hZ := HApI.out.own hlt HBk.out
                have hY := (HWx.out r' hlt).but HBk.out (fun bb hb h => by
                  have h1 := hZl _ h
                  have h2 := ((HWx.out r' hlt).lt hb).1
                  have h3 := HSwq.out
                  have h4 := HSe.out
                  omega)
                obtain ⟨-, t2, t3, t4⟩ := HQ3.out r' hlt
                have HSb := Lib.hid (fun w' (h : Mor wr w') => show Calls Tryz.prog 18 #[.agg #[.slice (nz L' r').A (nz L' r').n (nz L' r').c, .slice (nz L' r').X (nz L' r').m (nz L' r').k, .int .i64 (nz L' r').y.shut], .agg #[.slice (nz W r').A (nz W r').n (nz W r').c, .slice (nz W r').X (nz W r').m (nz W r').k, .int .i64 (nz W r').y.shut]] w' (fun e w'' => e = .returned (.bool true) ∧ Mor w' w'') from by
                  have hq := hY.bq
                  rw [t2, t3, t4] at hq
                  rw [t2, t3, t4]
                  exact samebook_yes (nz L' r').A (nz W r').A (nz L' r').n (nz L' r').c (nz W r').c (nz L' r').X (nz W r').X (nz L' r').m (nz L' r').k (nz W r').k (nz L' r').y.shut (nz L' r').y w' (hZ.bq.mor h) (hq.mor h))
                have HSp := Lib.hid (fun w' (h : Mor wr w') => spoilt_z (hZ.mor h))
                have HNx := Lib.hid (fun w' w'' (h : Mor wr w') (hb : But (nz L' r').blk w' w'') => show But (Zk L' (r' + 1)) wi w'' from ((HBk.out.mono Zk.up).mor h).trans' ⟨hb.os, hb.tape, hb.output, hb.size, fun bb h1 h2 => hb.block bb h1 (fun h3 => h2 ⟨r', by omega, h3⟩)⟩)
                clear hZl hcb hww hZ hY t2 t3 t4 hWB
                generalize nz L' r' = z1 at *
                generalize nz W r' = z2 at *
                obtain ⟨zA, zn, zc, zX, zm, zk, zy, zq⟩ := z1
                obtain ⟨vA, vn, vc, vX, vm, vk, vy, vq⟩ := z2
                simp only at f0 f1 f2 w0' w1' w2' HSb HSp
                go_wp2_with fail
                have hz0 := Bk.new wr 25 #[.slice zA zn zc, .slice zX zm zk, .int .i64 zy.shut]
                have hzm := (Mor.refl wr).alloc (o := .cells #[.slice zA zn zc, .slice zX zm zk, .int .i64 zy.shut] 25)
                obtain ⟨bz', hbz⟩ : ∃ g, g = wr.heap.size := ⟨_, rfl⟩
                rw [← hbz] at hz0 ⊢
                generalize wr.alloc (.cells #[.slice zA zn zc, .slice zX zm zk, .int .i64 zy.shut] 25) = wz at *
                have HWz := Lib.hid hzm
                have HBz := Lib.hid (fun w' (h : Mor wz w') => hz0.mor h)
                have HZc := Lib.hid (fun w' (h : Mor wz w') => show w'.cell? ⟨bz', 0, none⟩ = some (.slice zA zn zc) ∧ w'.cell? ⟨bz', 1, none⟩ = some (.slice zX zm zk) ∧ w'.cell? ⟨bz', 2, none⟩ = some (.int .i64 zy.shut) ∧ w'.cell? ⟨gW, r' * 3, none⟩ = some (.slice vA vn vc) ∧ w'.cell? ⟨gW, r' * 3 + 1, none⟩ = some (.slice vX vm vk) ∧ w'.cell? ⟨gW, r' * 3 + 2, none⟩ = some (.int .i64 vy.shut) from
                  ⟨by rw [(HBz.out w' h).cell]; rfl, by rw [(HBz.out w' h).cell]; rfl, by rw [(HBz.out w' h).cell]; rfl, ((HWz.out.trans' h).below.cell (p := ⟨gW, r' * 3, none⟩) wl).trans w0', ((HWz.out.trans' h).below.cell (p := ⟨gW, r' * 3 + 1, none⟩) wl).trans w1', ((HWz.out.trans' h).below.cell (p := ⟨gW, r' * 3 + 2, none⟩) wl).trans w2'⟩)
                clear f0 f1 f2 fl w0' w1' w2' hz0 hzm hbz
                obtain ⟨k0, k1, k2, k3, k4, k5⟩ := HZc.out wz (Mor.refl _)
                have kl := (HBz.out wz (Mor.refl _)).lt
                have wl2 : gW < wz.heap.size := Nat.lt_of_lt_of_le wl HWz.out.below.size
                go_region_held3 (fun w' => w'.cell? ⟨bz', 0, none⟩ = some (.slice zA zn zc) ∧ w'.cell? ⟨bz', 1, none⟩ = some (.slice zX zm zk) ∧ w'.cell? ⟨bz', 2, none⟩ = some (.int .i64 zy.shut) ∧ w'.cell? ⟨gW, r' * 3, none⟩ = some (.slice vA vn vc) ∧ w'.cell? ⟨gW, r' * 3 + 1, none⟩ = some (.slice vX vm vk) ∧ w'.cell? ⟨gW, r' * 3 + 2, none⟩ = some (.int .i64 vy.shut)) (first | exact HZc.out _ (by repeat (first | exact Mor.refl _ | exact HXv.out | apply Mor.alloc | apply Mor.more | apply Mor.drewN | apply Mor.drew))) (first
                  | (go_at_call 18; (with_reducible refine (HSb.out _ (HWz.out.trans' (by repeat (first | exact Mor.refl _ | exact HXv.out | apply Mor.alloc | apply Mor.more | apply Mor.drewN | apply Mor.drew)))).mono ?_); rintro e wv ⟨rfl, hmv⟩; have HXv := Lib.hid (show Mor wz wv from Mor.trans' (by repeat (first | exact Mor.refl _ | exact HXv.out | apply Mor.alloc | apply Mor.more | apply Mor.drewN | apply Mor.drew)) hmv); clear hmv))
                have hcs := HZc.out wv HXv.out
                obtain ⟨k0, k1, k2, -, -, -⟩ := hcs
                have kl := (HBz.out wv HXv.out).lt
                go_wp2_with fail
                refine (HSp.out _ (HWz.out.trans' (by repeat (first | exact Mor.refl _ | exact HXv.out | apply Mor.alloc | apply Mor.more | apply Mor.drewN | apply Mor.drew)))).mono ?_
                rintro e wx ⟨rfl, hb⟩
                have HN := Lib.hid (HNx.out _ wx (HWz.out.trans' (by repeat (first | exact Mor.refl _ | exact HXv.out | apply Mor.alloc | apply Mor.more | apply Mor.drewN | apply Mor.drew))) hb)
                clear hb k0 k1 k2 k3 k4 k5 kl
                go_wp2_with fail
                go_roundw
                case rel => exact ⟨r' + 1, by omega, by go_num, HN⟩
                case measure => simp [intOf]; omega
              · obtain rfl : r' = 6 := by omega
                obtain ⟨wj, rfl⟩ : ∃ wj, wj = wr := ⟨_, rfl⟩
                have hT3 : uw3.heap.size ≤ S.getD 0 0 := by rw [HS0.out]; have h1 := HSvw3.out.below.size; have h2 := HSuw4.out.below.size; have h3 := HSvw4.out.below.size; omega
                have hT4 : uw4.heap.size ≤ S.getD 0 0 := by rw [HS0.out]; exact HSvw4.out.below.size
                have hT34 : uw3.heap.size ≤ vw3.heap.size := HSvw3.out.below.size
                have hSw2 : wS.heap.size ≤ uw2.heap.size := HMuw2.out.below.size
                have hSw3 : wS.heap.size ≤ vw3.heap.size := HMvw3.out.below.size
                have hBw : wq.heap.size ≤ wB.heap.size := HYB.out.below.size
                have hZk : ∀ bb, Zk L' 6 bb → S.getD 0 0 ≤ bb ∧ bb < S.getD 6 0 := fun bb hb => HApI.out.lt (Nat.le_refl 6) hb
                have hq1 := HSwq.out
                have hq2 := HSe.out
                have hq3 := HSw.out
                have hq4 := HBT.out
                have hq5 := HBLs.out
                have HTr := Lib.hid (own_but (own_mor (own_but (own_mor HTo.out (HZuw3.out.trans' (HMq0.out.trans' HQd.out))) HB3.out (fun bb hb => HPS.out bb (by have h1 := (World.ownsRow.lt HTo.out bb hb).1; omega))) HMi.out) HBk.out (fun bb hb h => by have h1 := (World.ownsRow.lt HTo.out bb hb).2; have h2 := (hZk _ h).1; omega))
                have HGr := Lib.hid (own_but (own_mor (own_but (own_mor HGo.out (HZuw4.out.trans' (HMq0.out.trans' HQd.out))) HB3.out (fun bb hb => HPS.out bb (by have h1 := (World.ownsRow.lt HGo.out bb hb).1; omega))) HMi.out) HBk.out (fun bb hb h => by have h1 := (World.ownsRow.lt HGo.out bb hb).2; have h2 := (hZk _ h).1; omega))
                have HDTr := Lib.hid (own_but (own_mor (own_but (own_mor HDT.out HMd.out) HB3.out (fun bb hb => HPS.out bb (by have h1 := (World.ownsRow.lt HDT.out bb hb).1; omega))) HMi.out) HBk.out (fun bb hb h => by have h1 := (World.ownsRow.lt HDT.out bb hb).1; have h2 := (hZk _ h).2; omega))
                have HDGr := Lib.hid (own_but (own_mor (own_but (own_mor HDG.out HMd.out) HB3.out (fun bb hb => HPS.out bb (by have h1 := (World.ownsRow.lt HDG.out bb hb).1; omega))) HMi.out) HBk.out (fun bb hb h => by have h1 := (World.ownsRow.lt HDG.out bb hb).1; have h2 := (hZk _ h).2; omega))
                have hTE := blk_but HCEI.out HBk.out (fun h => by have h2 := (hZk _ h).2; omega)
                have hLE := blk_but (Bk.mor (blk_but (HBLk.out.mor HMd.out) HB3.out (HPS.out bLs (by omega))) HMi.out) HBk.out (fun h => by have h2 := (hZk _ h).2; omega)
                have HTE := Lib.hid hTE
                have HLE := Lib.hid hLE
                have HEqT := Lib.hid (fun w' (h : Mor wj w') => equal_lnG0 AT DT nT cT dT' lT w' (own_siB (own_mor HTr.out h)) (own_siB (own_mor HDTr.out h)) HTl.out (by have := HTn.out; omega))
                have HSpT := Lib.hid (fun w' (h : Mor wj w') => spoil_own_ln { data := #[] } 0 (own_mor HTr.out h))
                have HTB := Lib.hid (fun w' w'' (h : Mor wj w') (hg : w'.grownBy w'' (Value.slice AT nT cT).ownBlock) => show But (fun bb => (Value.slice AT nT cT).ownBlock = some bb) wj w'' from (But.of_mor h).grown hg (fun bb hb _ => hb))
                have hTlt : ∀ bb, (Value.slice AT nT cT).ownBlock = some bb → uw2.heap.size ≤ bb ∧ bb < uw3.heap.size := fun bb hb => World.ownsRow.lt HTo.out bb hb
                have hGlt : ∀ bb, (Value.slice AG nG cG).ownBlock = some bb → vw3.heap.size ≤ bb ∧ bb < uw4.heap.size := fun bb hb => World.ownsRow.lt HGo.out bb hb
                have HTlt := Lib.hid hTlt
                have HGlt := Lib.hid hGlt
                have HGB := Lib.hid (fun wk (hb : But (fun bb => (Value.slice AT nT cT).ownBlock = some bb) wj wk) => show (wk.ownsRow vw3.heap.size 34 2 (.slice AG nG cG) nG (flat pc lG) ∧ wk.ownsRow wB.heap.size 34 2 (.slice DG nG dG') nG (flat pc lG) ∧ Bk wk bT 28 #[.string sT, .int .i64 dT, .slice AT nT cT, .string sG, .int .i64 dG, .slice AG nG cG] ∧ Bk wk bLs 26 #[.slice DT nT dT', .slice DG nG dG']) from
                  ⟨own_but HGr.out hb (fun bb h1 h2 => by have h3 := (hGlt bb h1).1; have h4 := (hTlt bb h2).2; omega), own_but HDGr.out hb (fun bb h1 h2 => by have h3 := (World.ownsRow.lt HDG.out bb h1).1; have h4 := (hTlt bb h2).2; have h5 := HApI.out.le (Nat.zero_le 6) (Nat.le_refl 6); omega),
                   blk_but HTE.out hb (fun h2 => by have h4 := (hTlt bT h2).2; have h5 := HApI.out.le (Nat.zero_le 6) (Nat.le_refl 6); omega), blk_but HLE.out hb (fun h2 => by have h4 := (hTlt bLs h2).2; have h5 := HApI.out.le (Nat.zero_le 6) (Nat.le_refl 6); omega)⟩)
                clear hTlt hGlt hZk hT3 hT4 hT34 hSw2 hSw3 hBw hq1 hq2 hq3 hq4 hq5
                have j0 := Bk.cell hTE 0
                have j1 := Bk.cell hTE 1
                have j2 := Bk.cell hTE 2
                have jl := Bk.lt hTE
                have j8 := Bk.cell hLE 0
                have jm := Bk.lt hLE
                simp at j0 j1 j2 j8
                clear hTE hLE
                go_wp2_with fail
                refine wp_loop_rounds 3 ?_
                rw [rounds_succ]
                go_wp2_with fail
                go_quiet ((go_at_call 20; exact Calls.quiet_of (HEqT.out _ (by repeat (first | exact Mor.refl _ | apply Mor.alloc | apply Mor.more | apply Mor.drewN | apply Mor.drew)))))
                go_wp2_with fail
                refine (HSpT.out _ (by repeat (first | exact Mor.refl _ | apply Mor.alloc | apply Mor.more | apply Mor.drewN | apply Mor.drew))).mono ?_
                rintro e wk ⟨rfl, hg⟩
                have HBT1 := Lib.hid (HTB.out _ wk (by repeat (first | exact Mor.refl _ | apply Mor.alloc | apply Mor.more | apply Mor.drewN | apply Mor.drew)) hg)
                have hGk := HGB.out wk HBT1.out
                have HGk := Lib.hid hGk
                have HEqG := Lib.hid (fun w' (h : Mor wk w') => equal_lnG0 AG DG nG cG dG' lG w' (own_siB (own_mor HGk.out.1 h)) (own_siB (own_mor HGk.out.2.1 h)) HGl.out (by have := HGn.out; omega))
                have HSpG := Lib.hid (fun w' (h : Mor wk w') => spoil_own_ln { data := #[] } 0 (own_mor HGk.out.1 h))
                clear hg j0 j1 j2 jl j8 jm
                have j0 := Bk.cell hGk.2.2.1 3
                have j1 := Bk.cell hGk.2.2.1 4
                have j2 := Bk.cell hGk.2.2.1 5
                have jl := Bk.lt hGk.2.2.1
                have j8 := Bk.cell hGk.2.2.2 1
                have jm := Bk.lt hGk.2.2.2
                simp at j0 j1 j2 j8
                clear hGk
                go_wp2_with fail
                rw [rounds_succ]
                go_wp2_with fail
                go_quiet ((go_at_call 20; exact Calls.quiet_of (HEqG.out _ (by repeat (first | exact Mor.refl _ | apply Mor.alloc | apply Mor.more | apply Mor.drewN | apply Mor.drew)))))
                go_wp2_with fail
                refine (HSpG.out _ (by repeat (first | exact Mor.refl _ | apply Mor.alloc | apply Mor.more | apply Mor.drewN | apply Mor.drew))).mono ?_
                rintro e wl ⟨rfl, hg⟩
                have HBG1 := Lib.hid (show But (fun bb => (Value.slice AG nG cG).ownBlock = some bb) wk wl from (But.of_mor (show Mor wk _ from (by repeat (first | exact Mor.refl _ | apply Mor.alloc | apply Mor.more | apply Mor.drewN | apply Mor.drew)))).grown hg (fun bb hb _ => hb))
                clear hg j0 j1 j2 jl j8 jm
                have HFin := Lib.hid (show Mor w wl from by
                  have s1 := (HM0.out.trans' HM1.out).below.size
                  have s2 := (HM0.out.trans' HM2.out).below.size
                  have s3 := (HM0.out.trans' HMS.out).below.size
                  have s4 := HMuw2.out.below.size
                  have s5 := HMvw3.out.below.size
                  have s6 := HSq.out
                  refine But.toMor (P := fun bb => w.heap.size ≤ bb) (HM0.out.trans' (HMS.out.trans' HWSd.out)) ?_ (fun bb h => h)
                  have b1 : But (fun bb => w.heap.size ≤ bb) wd wh := HB3.out.mono (fun bb h => by
                    have h2 := HOrd.out.1
                    have h3 := HGY.out
                    rcases h with h | h | h
                    · have h4 := HIge.out _ h
                      omega
                    · omega
                    · omega)
                  have b2 : But (fun bb => w.heap.size ≤ bb) wi wj := HBk.out.mono (fun bb h => by have h1 := (HApI.out.lt (Nat.le_refl 6) h).1; omega)
                  have b3 : But (fun bb => w.heap.size ≤ bb) wj wk := HBT1.out.mono (fun bb h => by have h1 := (HTlt.out bb h).1; omega)
                  have b4 : But (fun bb => w.heap.size ≤ bb) wk wl := HBG1.out.mono (fun bb h => by have h1 := (HGlt.out bb h).1; omega)
                  exact (((b1.mor HMi.out).trans' b2).trans' b3).trans' b4)
                go_wp2_with fail
                rw [rounds_succ]
                go_wp2_with fail
                go_ret
                exact ⟨rfl, HFin.out.below⟩

end Go.Proofs.YtohpibjjlfpaaaaGreatDoor.bookOwn
