/- The walk of log.parse. -/
import Derived.Test.YtohpibjjlfpaaaaGreatDoorPBookOwnZ1
import Derived.Test.YtohpibjjlfpaaaaGreatDoorPBookOwnZ2
import Derived.Test.YtohpibjjlfpaaaaGreatDoorPBookOwnZ3
import Derived.Test.YtohpibjjlfpaaaaGreatDoorPBookOwnZ4
import Derived.Test.YtohpibjjlfpaaaaGreatDoorPBookOwnZ5
import Derived.Test.YtohpibjjlfpaaaaGreatDoorPBookOwnZ6
import Derived.Test.YtohpibjjlfpaaaaGreatDoorPBookOwnZ7
import Derived.Test.YtohpibjjlfpaaaaGreatDoorPBookOwnZ8
import Derived.Test.YtohpibjjlfpaaaaGreatDoorPBookOwnZ9
import Derived.Test.YtohpibjjlfpaaaaGreatDoorPBookOwnZ10
import Derived.Test.YtohpibjjlfpaaaaGreatDoorPBookOwnZ11
import Derived.Test.YtohpibjjlfpaaaaGreatDoorPBookOwnZ12
import Derived.Test.YtohpibjjlfpaaaaGreatDoorPBookOwnZ13
import Derived.Test.YtohpibjjlfpaaaaGreatDoorPBookOwnZ14
import Derived.Test.YtohpibjjlfpaaaaGreatDoorPBookOwnZ15
import Derived.Test.YtohpibjjlfpaaaaGreatDoorRows
import Derived.BigQuiet
import Derived.DataElems
import Derived.Deep.DeepCutAuto
import Derived.Deep.LoopGhost
import Derived.Deep.QuietTactic
import Derived.Deep.RegionHeld3
import Derived.Deep.RegionLaw
import Derived.Deep.RegionWith
import Derived.Deep.SlicePairs
import Derived.Deep.Slices
import Derived.Deep.Strs
import Derived.Handy
import Derived.Laws.AppendOwn
import Derived.Laws.Cover1
import Derived.Lib.AtoiAll
import Derived.Lib.AtoiTie
import Derived.Lib.Bytealg
import Derived.Lib.CutLaws
import Derived.Lib.Hide
import Derived.Lib.ItoaLen
import Derived.Lib.ItoaNum
import Derived.Lib.LastIndexLaws
import Derived.Lib.SliceRun
import Derived.Lib.SplitLaws
import Derived.Lib.Walk
import Derived.OpenShut
import Derived.Outline
import Derived.OwnWalk
import Derived.PlainAid
import Derived.ProofKit
import Derived.RegionTactic
import Derived.Shelf.Abstract
import Derived.Shelf.LaysC
import Derived.Shelf.LaysM
import Derived.Shelf.Small.Strs
import Derived.Shelf.Strconv.Atoi
import Derived.Shelf.Strconv.AtoiAll
import Derived.Shelf.Strconv.AtoiErrFast
import Derived.Shelf.Strconv.AtoiFail
import Derived.Shelf.Strconv.AtoiInnerAll
import Derived.Shelf.Strconv.AtoiLong
import Derived.Shelf.Strconv.Clone
import Derived.Shelf.Strconv.ErrVarAll
import Derived.Shelf.Strconv.Itoa0
import Derived.Shelf.Strconv.Itoa1
import Derived.Shelf.Strconv.Itoa2
import Derived.Shelf.Strconv.Itoa3
import Derived.Shelf.Strconv.Lower
import Derived.Shelf.Strconv.ParseInt10
import Derived.Shelf.Strconv.ParseIntEmpty
import Derived.Shelf.Strconv.ParseUint10
import Derived.Shelf.Strconv.ParseUint10Any
import Derived.Shelf.Strconv.ParseUint10Empty
import Derived.Shelf.Strconv.RangeError
import Derived.Shelf.Strconv.SyntaxError
import Derived.Shelf.Strconv.ToError
import Derived.Shelf.Strconv.ToErrorRange
import Derived.Shelf.Strings.Builder1
import Derived.Shelf.Strings.BuilderF
import Derived.Shelf.Strings.BuilderK
import Derived.Shelf.Strings.Count
import Derived.Shelf.Strings.Cut
import Derived.Shelf.Strings.Explode
import Derived.Shelf.Strings.LastIndex
import Derived.Shelf.Strings.LastIndexAll
import Derived.Shelf.Strings.RuneCount
import Derived.Shelf.Strings.Search1
import Derived.Shelf.Strings.Search2
import Derived.Shelf.Strings.Search3
import Derived.Shelf.Strings.Shaped
import Derived.Shelf.Strings.Split
import Derived.Shelf.Strings.SplitShaped
import Derived.Shelf.Unicode.Decode
import Derived.Shelf.Unicode.DecodeAny
import Derived.Shelf.Unicode.DecodeSlow
import Derived.Shelf.Utf8.RuneCount
import Derived.Sort.Walk0
import Derived.WalkKit
import Derived.WalkSpells
namespace Go.Proofs.YtohpibjjlfpaaaaGreatDoor
open Go Go.ChangeShapes Go.WideShapes Go.ChangeAt Go.RowKit Go.PlainAid
set_option linter.unusedVariables false
set_option maxRecDepth 100000

/-- strconv.Atoi, whatever the string: its value, and an error or none -/
theorem atoi_any (s : ByteArray) (w : World) (hs : s.size ≤ 281474976710656) (ht : Tb w) :
    Calls Tryz.prog 80 #[.string s] w fun e w' => ∃ er, e = .returned (.tuple #[.int .i64 (atoiV (ub s)), er]) ∧ Mor w w' ∧
      ((∃ v, Lib.atoiAll (ub s) = .ok v ∧ er = .nilIface) ∨ ((∀ v, Lib.atoiAll (ub s) ≠ .ok v) ∧ ∃ N, er = .iface 171 (.pointer (some ⟨N, 0, none⟩)))) := by
  cases h : Lib.atoiAll (ub s) with
  | ok v =>
    refine (Sh.strconv_Atoi_ok s (by omega) v h w).mono ?_
    rintro e w' ⟨rfl, hw⟩
    refine ⟨_, by unfold atoiV; rw [h], ?_, .inl ⟨v, rfl, rfl⟩⟩
    rcases hw with rfl | ⟨t, rfl⟩
    · exact Mor.refl _
    · exact Mor.of_below (Lib.bytesWorld_below ..)
  | range =>
    obtain ⟨tp, p, hv⟩ := ht.rng
    refine (Sh.strconv_Atoi_range_var s hs h tp p w hv).mono ?_
    rintro e w' ⟨N, rfl, _, _, hb⟩
    exact ⟨_, by unfold atoiV; rw [h], Mor.of_below hb, .inr ⟨fun v => by simp, N, rfl⟩⟩
  | _ =>
    obtain ⟨tp, p, hv⟩ := ht.syn
    refine (Sh.strconv_Atoi_syntax_var s hs (h.trans (by rfl)) tp p w hv).mono ?_
    rintro e w' ⟨N, rfl, _, _, hb⟩
    exact ⟨_, by unfold atoiV; rw [h], Mor.of_below hb, .inr ⟨fun v => by simp, N, rfl⟩⟩
theorem splitK_len : ∀ (k : Nat) (s : List UInt8), ∀ w ∈ Lib.splitK [32] 0 k s, w.length ≤ s.length
  | 0, s, w, h => by simp [Lib.splitK] at h; rw [h]; exact Nat.le_refl _
  | k + 1, s, w, h => by
    simp only [Lib.splitK] at h
    split at h
    · simp at h; rw [h]; exact Nat.le_refl _
    · rcases List.mem_cons.1 h with h | h
      · rw [h, List.length_take]; omega
      · have := splitK_len k _ w h
        rw [List.length_drop] at this; omega
theorem splitB_size {s w : ByteArray} {k : Nat} (h : w ∈ Lib.splitB sp 0 k s) : w.size ≤ s.size := by
  have hd := Lib.splitB_data sp 0 k s
  have : w.data.toList ∈ Lib.splitK [32] 0 k s.data.toList := by
    rw [← show sp.data.toList = [32] from rfl, ← hd]
    exact List.mem_map.2 ⟨w, h, rfl⟩
  have := splitK_len k _ _ this
  simpa using this
theorem cut_len (l : List UInt8) : (Lib.cut l [58]).1.length ≤ l.length ∧ (Lib.cut l [58]).2.1.length ≤ l.length := by
  unfold Lib.cut
  split
  · simp only [List.length_take, List.length_drop]; omega
  · simp
theorem cut_any (s : ByteArray) (w : World) (hs : s.size < 4294967281) (ht : Tb w) :
    Calls Tryz.prog 105 #[.string s, .string { data := #[58] }] w fun e w' => ∃ f, e = .returned (.tuple #[.string ⟨(Lib.cut (ub s) [58]).1.toArray⟩, .string ⟨(Lib.cut (ub s) [58]).2.1.toArray⟩, .bool f]) ∧ Mor w w' := by
  obtain ⟨m, hm⟩ := ht.len
  refine (Sh.strings_Cut s { data := #[58] } m w hs hm).mono ?_
  rintro e w' ⟨rfl, k, rfl⟩
  exact ⟨_, rfl, (Mor.refl _).drewN⟩
theorem split_any (s : ByteArray) (w : World) (hs : s.size < 4294967281) (ht : Tb w) :
    Calls Tryz.prog 104 #[.string s, .string { data := #[32] }] w fun e w' =>
      e = .returned (.slice (some ⟨w.heap.size, 0, none⟩) (Lib.countB s sp + 1) (Lib.countB s sp + 1)) ∧ w' = w.alloc (.cells ((Lib.splitB sp 0 (Lib.countB s sp) s).map Value.string).toArray 9) := by
  obtain ⟨m, hm⟩ := ht.len
  exact Sh.strings_Split s sp m w hs hm (by decide)

def wd (ws : List ByteArray) (j : Nat) : ByteArray := ws.getD j ByteArray.empty
def kyA (ws : List ByteArray) (j : Nat) : ByteArray := if 1 ≤ j then wd ws 0 else ByteArray.empty
def dyA (ws : List ByteArray) (j : Nat) : Int := if 2 ≤ j then atoiV (ub (wd ws 1)) else 0
def lnA (ws : List ByteArray) (j : Nat) : List Ln := ((ws.take j).drop 2).map lnOf'
theorem Mor.setC' {w w' : World} {g i : Nat} {u : Value} (h : Mor w w') (hg : w.heap.size ≤ g) : Mor w (w'.setCell ⟨g, i, none⟩ u) := Mor.of_below (h.below.setCell hg u)
theorem sub2 {j : Nat} (h : 2 ≤ j) : j - 2 + 1 = j + 1 - 2 := by omega
theorem wd_eq (ws : List ByteArray) (j : Nat) (h : j < ws.length) : wd ws j = ws[j] := by
  unfold wd; rw [List.getD_eq_getElem?_getD, List.getElem?_eq_getElem h]; rfl
theorem lnA_len (ws : List ByteArray) (j : Nat) (h : j ≤ ws.length) : (lnA ws j).length = j - 2 := by
  unfold lnA; rw [List.length_map, List.length_drop, List.length_take]; omega
theorem lnA_succ (ws : List ByteArray) (j : Nat) (h : j < ws.length) (h2 : 2 ≤ j) : lnA ws (j + 1) = lnA ws j ++ [lnOf' (wd ws j)] := by
  unfold lnA
  rw [List.take_succ_eq_append_getElem h, List.drop_append_of_le_length (by rw [List.length_take]; omega), List.map_append, wd_eq ws j h]
  rfl
theorem lnA_few (ws : List ByteArray) (j : Nat) (h2 : j ≤ 2) : lnA ws j = [] := by
  unfold lnA
  rw [List.drop_eq_nil_of_le (by rw [List.length_take]; omega)]; rfl
theorem parseW_eq (ws : List ByteArray) (h : 1 ≤ ws.length) : (parseW ws).key = kyA ws ws.length ∧ (parseW ws).day = dyA ws ws.length ∧ (parseW ws).ls = lnA ws ws.length := by
  refine ⟨?_, rfl, ?_⟩
  · unfold kyA; rw [if_pos h]; rfl
  · unfold lnA; rw [List.take_length]; rfl

set_option maxRecDepth 100000 in
set_option maxHeartbeats 3200000 in
theorem parse_any (s : ByteArray) (w : World) (hs : s.size ≤ 2000000) (ht : Tb w) :
    Calls Tryz.prog 81 #[.string s] w fun e w' => ∃ A n c, e = .returned (.agg #[.string (parseB s).key, .int .i64 (parseB s).day, .slice A n c]) ∧ (Lq w' A n c (parseB s).ls ∧ w'.ownsRow w.heap.size 34 2 (.slice A n c) n (flat pc (parseB s).ls)) ∧ Mor w w' := by
  obtain ⟨i0, hi0, hz0, hz1, hz2⟩ := info_parts info_line
  have HT := Lib.hid (fun w' (h : Mor w w') => ht.mor h)
  have HSp := Lib.hid (fun w' (h : Mor w w') => split_any s w' (by omega) (ht.mor h))
  have hcnt : Lib.countB s sp ≤ s.size := Lib.countB_le sp (by decide) s.size s (Nat.le_refl _)
  have hlen : (Lib.splitB sp 0 (Lib.countB s sp) s).length = Lib.countB s sp + 1 := Lib.splitB_all sp (by decide) 0 _ s rfl
  have HSz := Lib.hid (fun u (h : u ∈ Lib.splitB sp 0 (Lib.countB s sp) s) => show u.size ≤ 2000000 by have := splitB_size h; omega)
  have HPb := Lib.hid (show parseB s = parseW (Lib.splitB sp 0 (Lib.countB s sp) s) from rfl)
  generalize parseB s = en at *
  generalize Lib.splitB sp 0 (Lib.countB s sp) s = ws at *
  generalize Lib.countB s sp = N at *
  have HWl := Lib.hid hlen
  clear ht hlen
  go_enter Tryz.func81, Tryz.ntmps81
  go_wp2_with fail
  have hM0 := ((Mor.refl w).alloc (o := .cells #[.string { data := #[] }, .int .i64 0, .slice none 0 0] 28)).alloc (o := .cells #[.string { data := #[] }, .int .i64 0, .slice none 0 0] 28)
  have hR0 := (Bk.new w 28 #[.string { data := #[] }, .int .i64 0, .slice none 0 0]).alloc (.cells #[.string { data := #[] }, .int .i64 0, .slice none 0 0] 28)
  have hE0 := Bk.new (w.alloc (.cells #[.string { data := #[] }, .int .i64 0, .slice none 0 0] 28)) 28 #[.string { data := #[] }, .int .i64 0, .slice none 0 0]
  rw [← szA] at hE0
  obtain ⟨bR, hbR⟩ : ∃ g, g = w.heap.size := ⟨_, rfl⟩
  rw [← hbR] at hR0 hE0 ⊢
  obtain ⟨bE, hbE⟩ : ∃ g, g = bR + 1 := ⟨_, rfl⟩
  rw [← hbE] at hE0 ⊢
  generalize (w.alloc (.cells #[.string { data := #[] }, .int .i64 0, .slice none 0 0] 28)).alloc (.cells #[.string { data := #[] }, .int .i64 0, .slice none 0 0] 28) = w0 at *
  have hwR : w.heap.size ≤ bR := by omega
  have hwE : w.heap.size ≤ bE := by omega
  have hRE : bR ≠ bE := by omega
  clear hbR hbE
  refine (HSp.out _ hM0).mono ?_
  rintro e w1 ⟨rfl, rfl⟩
  have hS1 := Bk.new w0 9 (ws.map Value.string).toArray
  have hE1 := hE0.alloc (.cells (ws.map Value.string).toArray 9)
  have hR1 := hR0.alloc (.cells (ws.map Value.string).toArray 9)
  have hM1 := hM0.alloc (o := .cells (ws.map Value.string).toArray 9)
  have hES : bE < w0.heap.size := hE0.lt
  obtain ⟨bS, hbS⟩ : ∃ g, g = w0.heap.size := ⟨_, rfl⟩
  rw [← hbS] at hS1 hES ⊢
  generalize w0.alloc (.cells (ws.map Value.string).toArray 9) = w1 at *
  have hn20 : N ≤ 2000000 := by omega
  clear hM0 hR0 hE0 hbS
  go_wp2_with fail
  go_loopw [14] (fun i wr => ∃ (j : Nat) (A' : Option Addr) (c' : Nat), j ≤ N + 1 ∧ i = .int .i64 j ∧ Hid (Bk wr bE 28 #[.string (kyA ws j), .int .i64 (dyA ws j), .slice A' (j - 2) c'] ∧ wr.ownsRow w.heap.size 34 2 (.slice A' (j - 2) c') (j - 2) (flat pc (lnA ws j)) ∧ Bk wr bS 9 (ws.map Value.string).toArray ∧ Bk wr bR 28 #[.string { data := #[] }, .int .i64 0, .slice none 0 0] ∧ Mor w wr)) (fun i _ => N + 1 - (intOf i).toNat)
  case atStart => exact ⟨0, none, 0, Nat.zero_le _, rfl, Lib.hid ⟨hE1, by rw [lnA_few ws 0 (by omega)]; exact World.ownsRow_nil _ _ _ _, hS1, hR1, hM1⟩⟩
  case round =>
    clear hE1 hS1 hR1 hM1
    obtain ⟨j, A', c', hj, rfl, HJ⟩ := hrel
    obtain ⟨hE, hown, hS, hR, hm⟩ := HJ.out
    by_cases hlt : j < N + 1
    · have hji : (j : Int) < (N : Int) + 1 := by omega
      have hj0 : (0 : Int) ≤ (j : Int) := by omega
      have hjl : j < ws.length := by rw [HWl.out]; exact hlt
      have hwj := hS.cell j
      rw [List.getElem?_toArray, List.getElem?_map, List.getElem?_eq_getElem hjl, ← wd_eq ws j hjl] at hwj
      have hSl := hS.lt
      have hsw := HSz.out (wd ws j) (by rw [wd_eq ws j hjl]; exact List.getElem_mem hjl)
      have hwj' : wr.cell? ⟨bS, j, none⟩ = some (.string (wd ws j)) := hwj
      have e0 := hE.cell 0
      have e1 := hE.cell 1
      have e2 := hE.cell 2
      have el := hE.lt
      have f0 := hE.frozen 0
      have f1 := hE.frozen 1
      have f2 := hE.frozen 2
      simp at e0 e1 e2
      clear hwj
      by_cases h0 : j = 0
      · subst h0
        have hji0 : (((0 : Nat) : Int) == 0) = true := rfl
        have HX := Lib.hid (show Bk (wr.setCell ⟨bE, 0, none⟩ (.string (wd ws 0))) bE 28 #[.string (kyA ws (0 + 1)), .int .i64 (dyA ws (0 + 1)), .slice A' (0 + 1 - 2) c'] ∧ _ from ⟨by have := hE.set_ 0 (.string (wd ws 0)); simpa [kyA, dyA] using this, And.intro (own_setT (u := .string (wd ws 0)) (i := 0) hown hE (by decide)) (And.intro (hS.set_other bE 0 (.string (wd ws 0)) (by omega)) (And.intro (hR.set_other bE 0 (.string (wd ws 0)) hRE) (hm.setC' (u := .string (wd ws 0)) (i := 0) hwE)))⟩)
        generalize wd ws 0 = u at *
        clear hE hown hS hR hm HJ hsw
        go_wp2_with fail
        go_roundw
        case rel => exact ⟨0 + 1, A', c', by omega, rfl, Lib.hid ⟨HX.out.1, by rw [lnA_few ws (0 + 1) (by omega)]; have := HX.out.2.1; rw [lnA_few ws 0 (by omega)] at this; exact this, HX.out.2.2.1, HX.out.2.2.2.1, HX.out.2.2.2.2⟩⟩
        case measure => simp [intOf] <;> omega
      · by_cases h1 : j = 1
        · subst h1
          have HA := Lib.hid (atoi_any (wd ws 1) wr (by omega) (HT.out _ hm))
          have HX := Lib.hid (fun w' (h : Mor wr w') => And.intro (hE.mor h) (And.intro (own_mor hown h) (And.intro (hS.mor h) (And.intro (hR.mor h) (hm.trans' h)))))
          have HV := Lib.hid (show dyA ws (1 + 1) = atoiV (ub (wd ws 1)) from rfl)
          generalize atoiV (ub (wd ws 1)) = v at *
          generalize wd ws 1 = u at *
          clear hE hown hS hR hm HJ hsw
          go_wp2_with fail
          refine HA.out.mono ?_
          rintro e w5 ⟨er, rfl, hm5, -⟩
          obtain ⟨hE, hown, hS, hR, hm⟩ := HX.out _ hm5
          clear e0 e1 e2 el f0 f1 f2 hSl hwj'
          have e0 := hE.cell 0
          have e1 := hE.cell 1
          have e2 := hE.cell 2
          have el := hE.lt
          have f0 := hE.frozen 0
          have f1 := hE.frozen 1
          have f2 := hE.frozen 2
          simp at e0 e1 e2
          have HY := Lib.hid (show Bk (w5.setCell ⟨bE, 1, none⟩ (.int .i64 v)) bE 28 #[.string (kyA ws (1 + 1)), .int .i64 (dyA ws (1 + 1)), .slice A' (1 + 1 - 2) c'] ∧ _ from ⟨by rw [HV.out]; have := hE.set_ 1 (.int .i64 v); simpa [kyA] using this, And.intro (own_setT (u := .int .i64 v) (i := 1) hown hE (by decide)) (And.intro (hS.set_other bE 1 (.int .i64 v) (by omega)) (And.intro (hR.set_other bE 1 (.int .i64 v) hRE) (hm.setC' (u := .int .i64 v) (i := 1) hwE)))⟩)
          clear hE hown hS hR hm hm5 HX
          go_wp2_with fail
          go_roundw
          case rel => exact ⟨1 + 1, A', c', by omega, rfl, Lib.hid ⟨HY.out.1, by rw [lnA_few ws (1 + 1) (by omega)]; have := HY.out.2.1; rw [lnA_few ws 1 (by omega)] at this; exact this, HY.out.2.2.1, HY.out.2.2.2.1, HY.out.2.2.2.2⟩⟩
          case measure => simp [intOf] <;> omega
        · have hj2 : 2 ≤ j := by omega
          have hn0 : ¬ (j : Int) = 0 := by omega
          have hn1 : ¬ (j : Int) = 1 := by omega
          have hb0 : ((j : Int) == 0) = false := by simpa using hn0
          have hb1 : ((j : Int) == 1) = false := by simpa using hn1
          have HSu := Lib.hid (lnA_succ ws j hjl hj2)
          have HLn := Lib.hid (show lnOf' (wd ws j) = (⟨(Lib.cut (ub (wd ws j)) [58]).1.toArray⟩, atoiV (Lib.cut (ub (wd ws j)) [58]).2.1) from rfl)
          obtain ⟨cl1, cl2⟩ := cut_len (ub (wd ws j))
          rw [ub_len] at cl1 cl2
          have HC := Lib.hid (cut_any (wd ws j) wr (by omega) (HT.out _ hm))
          have HA := Lib.hid (fun w' (h : Mor wr w') => atoi_any ⟨(Lib.cut (ub (wd ws j)) [58]).2.1.toArray⟩ w' (by rw [sz_mk]; omega) (HT.out _ (hm.trans' h)))
          rw [ub_mk] at HA
          have HX := Lib.hid (fun w' (h : Mor wr w') => And.intro (hE.mor h) (And.intro (own_mor hown h) (And.intro (hS.mor h) (And.intro (hR.mor h) (hm.trans' h)))))
          generalize lnOf' (wd ws j) = lj at *
          generalize atoiV (Lib.cut (ub (wd ws j)) [58]).2.1 = v at *
          generalize (⟨(Lib.cut (ub (wd ws j)) [58]).1.toArray⟩ : ByteArray) = code at *
          generalize (⟨(Lib.cut (ub (wd ws j)) [58]).2.1.toArray⟩ : ByteArray) = num at *
          generalize wd ws j = u at *
          clear hE hown hS hR hm HJ hsw
          go_wp2_with fail
          refine HC.out.mono ?_
          rintro e w5 ⟨fl, rfl, hm5⟩
          have HM5 := Lib.hid hm5
          clear hm5 e0 e1 e2 el f0 f1 f2 hSl hwj' HC
          go_wp2_with fail
          refine (HA.out _ HM5.out).mono ?_
          rintro e w6 ⟨er, rfl, hm6, -⟩
          obtain ⟨hE, hown, hS, hR, hm⟩ := HX.out _ (HM5.out.trans' hm6)
          have e0 := hE.cell 0
          have e1 := hE.cell 1
          have e2 := hE.cell 2
          have el := hE.lt
          have f0 := hE.frozen 0
          have f1 := hE.frozen 1
          have f2 := hE.frozen 2
          simp at e0 e1 e2
          have HE6 := Lib.hid hE
          have HO6 := Lib.hid hown
          have HS6 := Lib.hid hS
          have HR6 := Lib.hid hR
          have HM6 := Lib.hid hm
          clear hE hown hS hR hm hm6 HX HA HM5
          have hbz : w.heap.size ≤ (w6.alloc (.cells #[.string code, .int .i64 v] 34)).heap.size := by have := HM6.out.below.size; simp; omega
          have HO6' := Lib.hid (own_mor HO6.out ((Mor.refl w6).alloc (o := .cells #[.string code, .int .i64 v] 34)))
          go_wp2_with (at_builtin; refine wpList_append_own _ rfl _ _ 26 rfl w.heap.size 34 i0 (.agg #[.string { data := #[] }, .int .i64 0]) 2 24 Tryz.underlying26 hi0 hz0 hz1 hz2 rfl (by decide) _ (j - 2) (flat pc (lnA ws j)) rfl HO6'.out ⟨w6.heap.size, 0, none⟩ 1 1 [.string code, .int .i64 v] rfl rfl (lit_at _ _ _ rfl rfl) (by intro u hu; simp at hu; rcases hu with rfl | rfl <;> rfl) (by unfold maxLen; omega) (by omega) hbz ?_)
          intro u7 w7 hown7 hgrow7 _
          obtain ⟨A7, c7, rfl, _, _, _⟩ := own_shape hown7
          have hE7 := Bk.growT (HE6.out.alloc (.cells #[.string code, .int .i64 v] 34)) HO6'.out hgrow7 (by decide)
          have hS7 := Bk.growT (HS6.out.alloc (.cells #[.string code, .int .i64 v] 34)) HO6'.out hgrow7 (by decide)
          have hR7 := Bk.growT (HR6.out.alloc (.cells #[.string code, .int .i64 v] 34)) HO6'.out hgrow7 (by decide)
          have hm7 : Mor w w7 := own_step HO6'.out (HM6.out.alloc) hgrow7
          have hrow : w7.ownsRow w.heap.size 34 2 (.slice A7 (j - 2 + 1) c7) (j - 2 + 1) (flat pc (lnA ws (j + 1))) := by
            rw [HSu.out, HLn.out, flat_snoc]; exact hown7
          have ej := sub2 hj2
          rw [ej] at hrow ⊢
          clear e0 e1 e2 el f0 f1 f2
          have e0 := hE7.cell 0
          have e1 := hE7.cell 1
          have e2 := hE7.cell 2
          have el := hE7.lt
          have f0 := hE7.frozen 0
          have f1 := hE7.frozen 1
          have f2 := hE7.frozen 2
          simp at e0 e1 e2
          have HY := Lib.hid (show Bk (w7.setCell ⟨bE, 2, none⟩ (.slice A7 (j + 1 - 2) c7)) bE 28 #[.string (kyA ws (j + 1)), .int .i64 (dyA ws (j + 1)), .slice A7 (j + 1 - 2) c7] ∧ _ from ⟨by
            have := hE7.set_ 2 (.slice A7 (j + 1 - 2) c7)
            have k1 : kyA ws (j + 1) = kyA ws j := by unfold kyA; rw [if_pos (by omega), if_pos (by omega)]
            have k2 : dyA ws (j + 1) = dyA ws j := by unfold dyA; rw [if_pos (by omega), if_pos (by omega)]
            rw [k1, k2]; simpa using this, And.intro (own_setT (u := .slice A7 (j + 1 - 2) c7) (i := 2) hrow hE7 (by decide)) (And.intro (hS7.set_other bE 2 (.slice A7 (j + 1 - 2) c7) (by omega)) (And.intro (hR7.set_other bE 2 (.slice A7 (j + 1 - 2) c7) hRE) (hm7.setC' (u := .slice A7 (j + 1 - 2) c7) (i := 2) hwE)))⟩)
          clear hE7 hS7 hR7 hm7 hrow hown7 hgrow7 HE6 HO6 HS6 HR6 HM6 HO6' hbz
          go_simp
          go_wp2_with fail
          go_roundw
          case rel => exact ⟨j + 1, A7, c7, by omega, by go_num, HY⟩
          case measure => simp [intOf] <;> omega
    · obtain rfl : j = N + 1 := by omega
      have hp := parseW_eq ws (by rw [HWl.out]; omega)
      rw [HWl.out, ← HPb.out] at hp
      obtain ⟨q0, q1, q2⟩ := hp
      have hq := lnA_len ws (N + 1) (by rw [HWl.out]; exact Nat.le_refl _)
      obtain ⟨A8, c8, hv8, h8a, h8b, h8c⟩ := own_shape hown
      injection hv8 with v1 _ v3
      subst v1 v3
      have HZ := Lib.hid (show ∀ i, i < N + 1 - 2 → (cd (lnA ws (N + 1)) i).size ≤ maxLen from fun i hi => by
        have hi2 : i < (lnA ws (N + 1)).length := by rw [hq]; exact hi
        have e : cd (lnA ws (N + 1)) i = ((lnA ws (N + 1))[i]).1 := by unfold cd; rw [List.getD_eq_getElem?_getD, List.getElem?_eq_getElem hi2]; rfl
        rw [e]
        have hm2 : (lnA ws (N + 1))[i] ∈ lnA ws (N + 1) := List.getElem_mem hi2
        generalize (lnA ws (N + 1))[i] = q at *
        unfold lnA at hm2
        obtain ⟨u, hu, he⟩ := List.mem_map.1 hm2
        rw [← he]
        have h1 := HSz.out u (List.mem_of_mem_take (List.mem_of_mem_drop hu))
        have h2 := (cut_len (ub u)).1
        rw [ub_len] at h2
        show (⟨(Lib.cut (ub u) [58]).1.toArray⟩ : ByteArray).size ≤ maxLen
        rw [sz_mk]; unfold maxLen; omega)
      have HQl := Lib.hid hq
      rw [← q0, ← q1] at hE
      have e0 := hE.cell 0
      have e1 := hE.cell 1
      have e2 := hE.cell 2
      have el := hE.lt
      simp at e0 e1 e2
      have r0 := hR.cell 0
      have r1 := hR.cell 1
      have r2 := hR.cell 2
      have rl := hR.lt
      have f0 := hR.frozen 0
      have f1 := hR.frozen 1
      have f2 := hR.frozen 2
      simp at r0 r1 r2
      have HR9 := Lib.hid hR
      have HM9 := Lib.hid hm
      have HO9 := Lib.hid (And.intro hown q2)
      clear hE hR hown hS hm HJ q0 q1 q2 hq
      go_wp2_with fail
      have hb9 := ((HR9.out.set_ 0 (.string en.key)).set_ 1 (.int .i64 en.day)).set_ 2 (.slice A' (N - 1) c')
      simp only [List.setIfInBounds_toArray, List.set_cons_zero, List.set_cons_succ] at hb9
      have ho9 := own_setT (i := 2) (u := .slice A' (N - 1) c') (own_setT (i := 1) (u := .int .i64 en.day) (own_setT (i := 0) (u := .string en.key) HO9.out.1 HR9.out (by decide)) (HR9.out.set_ 0 (.string en.key)) (by decide)) ((HR9.out.set_ 0 (.string en.key)).set_ 1 (.int .i64 en.day)) (by decide)
      have hm9 := ((HM9.out.setC' (i := 0) (u := .string en.key) hwR).setC' (i := 1) (u := .int .i64 en.day) hwR).setC' (i := 2) (u := .slice A' (N - 1) c') hwR
      have q0 := hb9.cell 0
      have q1 := hb9.cell 1
      have q2 := hb9.cell 2
      simp at q0 q1 q2
      obtain ⟨A9, c9, hv9, hl9⟩ := own_lq ho9 HQl.out HZ.out
      injection hv9 with g1 _ g3
      subst g1 g3
      have ho10 := ho9
      rw [← HO9.out.2] at hl9 ho10
      refine bodyPost_ret (v := .agg #[.string en.key, .int .i64 en.day, .slice A' (N - 1) c']) (by simp [results, Tryz.results81, go_sem, q0, q1, q2]; try rfl) rfl ?_
      exact ⟨A', N - 1, c', rfl, ⟨hl9, ho10⟩, hm9⟩

end Go.Proofs.YtohpibjjlfpaaaaGreatDoor

/- The walks of log.Read (printed by gread.py). -/
namespace Go.Proofs.YtohpibjjlfpaaaaGreatDoor
open Go Go.ChangeShapes Go.WideShapes Go.ChangeAt Go.RowKit Go.PlainAid
set_option linter.unusedVariables false
set_option maxRecDepth 100000

def ReadNo (w : World) (r : Int) (e : Ending) (w' : World) : Prop := e = .returned (.tuple #[.agg #[.string { data := #[] }, .int .i64 0, .slice none 0 0], .int .i64 0, .int .i64 r]) ∧ Mor w w'
def RY (w : World) (ky : ByteArray) (dy : Int) (ls : List Ln) (n : Int) (e : Ending) (w' : World) : Prop := ∃ A m c, e = .returned (.tuple #[.agg #[.string ky, .int .i64 dy, .slice A m c], .int .i64 n, .int .i64 0]) ∧ (Lq w' A m c ls ∧ w'.ownsRow w.heap.size 34 2 (.slice A m c) m (flat pc ls)) ∧ Mor w w'
def ReadYes (w : World) (x : En) (n : Int) (e : Ending) (w' : World) : Prop := RY w x.key x.day x.ls n e w'
theorem indexByte_lt : ∀ (l : List UInt8) (c : UInt8), Lib.indexByte l c < l.length
  | [], _ => by simp [Lib.indexByte]
  | b :: l, c => by
    have := indexByte_lt l c
    simp only [Lib.indexByte, List.length_cons]
    split
    · omega
    · split <;> omega
theorem lastIndex_lt (l : List UInt8) : Lib.lastIndex l [32, 61] + 2 ≤ l.length ∨ Lib.lastIndex l [32, 61] < 0 := by
  by_cases h : Lib.lastIndex l [32, 61] < 0
  · exact .inr h
  · left
    unfold Lib.lastIndex at h ⊢
    split at h
    · rename_i h2
      rw [if_pos h2]
      rcases Lib.lastOcc_spec l [32, 61] (l.length - [(32 : UInt8), 61].length + 1) with ⟨e, _⟩ | ⟨i, hi, e, _⟩
      · omega
      · rw [e]
        simp only [List.length_cons, List.length_nil] at hi h2
        omega
    · omega
theorem rdAt_lt (s : ByteArray) : rdAt s < s.size := by unfold rdAt; have := indexByte_lt (ub s) 10; rw [ub_len] at this; exact this
theorem rdK_lt (s : ByteArray) : rdK s + 2 ≤ (rdL s).size ∨ rdK s < 0 := by unfold rdK; have := lastIndex_lt (ub (rdL s)); rw [ub_len] at this; exact this
theorem rdE_key (s : ByteArray) : (rdE s).key.size ≤ (rdP s).size := by
  unfold rdE parseB parseW
  dsimp only
  cases h : (Lib.splitB sp 0 (Lib.countB (rdP s) sp) (rdP s)) with
  | nil => exact Nat.zero_le _
  | cons u r => exact splitB_size (by rw [h]; exact List.mem_cons_self)
theorem own_lqn {w w0 : World} {B n c : Nat} {T : TypeId} {A : Option Addr} {xs : List Ln} (h : w.ownsRow B T 2 (.slice A n c) n (flat pc xs)) (hq : Lq w0 A n c xs) : Lq w A n c xs := by
  obtain ⟨A9, c9, hv9, hl9⟩ := own_lq h hq.length hq.str
  injection hv9 with g1 _ g3
  subst g1 g3
  exact hl9
theorem ixb (s : ByteArray) (w : World) : Calls Tryz.prog 78 #[.string s, .int .u8 10] w fun e w' => e = .returned (.int .i64 (rdAt s)) ∧ w = w' := by
  refine (Sh.strings_IndexByte s 10 w).mono ?_
  rintro e w' ⟨rfl, rfl⟩
  exact ⟨rfl, rfl⟩
theorem lix (s : ByteArray) (w : World) (hs : (rdL s).size < 4611686018427387904) : Calls Tryz.prog 79 #[.string (rdL s), .string { data := #[32, 61] }] w fun e w' => e = .returned (.int .i64 (rdK s)) ∧ w = w' := by
  refine (Sh.strings_LastIndex (rdL s) speq hs w).mono ?_
  rintro e w' ⟨rfl, rfl⟩
  exact ⟨rfl, rfl⟩

set_option maxRecDepth 100000 in
set_option maxHeartbeats 1600000 in
theorem read_no8 (s : ByteArray) (w : World) (h : rdAt s < 0) :
    Calls Tryz.prog 53 #[.string s] w (ReadNo w 8) := by
  have HIx := Lib.hid (fun w => ixb s w)
  generalize rdAt s = a at *
  go_enter Tryz.func53, Tryz.ntmps53
  go_wp2_with fail
  have hM0 := (Mor.refl w).alloc (o := .cells #[.string { data := #[] }, .int .i64 0, .slice none 0 0] 28)
  have hR0 := Bk.new w 28 #[.string { data := #[] }, .int .i64 0, .slice none 0 0]
  obtain ⟨bR, hbR⟩ : ∃ g, g = w.heap.size := ⟨_, rfl⟩
  rw [← hbR] at hR0 ⊢
  generalize w.alloc (.cells #[.string { data := #[] }, .int .i64 0, .slice none 0 0] 28) = w0 at *
  have hwR : w.heap.size ≤ bR := by omega
  have HR := Lib.hid (fun w' (h : Mor w0 w') => hR0.mor h)
  have HM0 := Lib.hid hM0
  clear hM0 hbR
  refine (HIx.out _).mono ?_
  rintro e w1 ⟨rfl, rfl⟩
  have hR := HR.out _ (Mor.refl _)
  have f0 := hR.frozen 0
  have f1 := hR.frozen 1
  have f2 := hR.frozen 2
  have r0 := hR.cell 0
  have r1 := hR.cell 1
  have r2 := hR.cell 2
  have rl := hR.lt
  simp at r0 r1 r2
  have HRx := Lib.hid hR
  clear hR
  clear hR0
  go_wp2_with fail
  have hb9 := ((HRx.out.set_ 0 (.string { data := #[] })).set_ 1 (.int .i64 0)).set_ 2 (.slice none 0 0)
  simp only [List.setIfInBounds_toArray, List.set_cons_zero, List.set_cons_succ] at hb9
  have hm9 := ((HM0.out.setC' (i := 0) (u := .string { data := #[] }) hwR).setC' (i := 1) (u := .int .i64 0) hwR).setC' (i := 2) (u := .slice none 0 0) hwR
  have q0 := hb9.cell 0
  have q1 := hb9.cell 1
  have q2 := hb9.cell 2
  simp at q0 q1 q2
  refine bodyPost_ret (v := .tuple #[.agg #[.string { data := #[] }, .int .i64 0, .slice none 0 0], .int .i64 0, .int .i64 8]) (by simp [results, Tryz.results53, go_sem, q0, q1, q2]; try rfl) rfl ?_
  exact ⟨rfl, by repeat (first | exact hm9 | apply Mor.drewN | apply Mor.drew)⟩

set_option maxRecDepth 100000 in
set_option maxHeartbeats 1600000 in
theorem read_no3a (s : ByteArray) (w : World) (hs : s.size ≤ maxLen) (hL : (rdL s).size ≤ 2000000) (h : ¬ rdAt s < 0) (h2 : rdK s < 0) :
    Calls Tryz.prog 53 #[.string s] w (ReadNo w 3) := by
  unfold maxLen at hs
  have hatl := rdAt_lt s
  obtain ⟨a, ha⟩ : ∃ a : Nat, rdAt s = a := ⟨(rdAt s).toNat, by omega⟩
  have HIx := Lib.hid (fun w => ixb s w)
  have hLe : rdL s = s.extract 0 a := by unfold rdL; rw [ha]; rfl
  have HLx := Lib.hid (fun w => lix s w (by omega))
  have hkl := rdK_lt s
  rw [ha] at HIx
  rw [hLe] at HLx hkl hL
  have hal : a ≤ s.size := by omega
  have hli : (a : Int) ≤ (s.size : Int) := by omega
  have ha0 : (0 : Int) ≤ (a : Int) := by omega
  generalize rdK s = k at *
  clear ha hatl hLe
  go_enter Tryz.func53, Tryz.ntmps53
  go_wp2_with fail
  have hM0 := (Mor.refl w).alloc (o := .cells #[.string { data := #[] }, .int .i64 0, .slice none 0 0] 28)
  have hR0 := Bk.new w 28 #[.string { data := #[] }, .int .i64 0, .slice none 0 0]
  obtain ⟨bR, hbR⟩ : ∃ g, g = w.heap.size := ⟨_, rfl⟩
  rw [← hbR] at hR0 ⊢
  generalize w.alloc (.cells #[.string { data := #[] }, .int .i64 0, .slice none 0 0] 28) = w0 at *
  have hwR : w.heap.size ≤ bR := by omega
  have HR := Lib.hid (fun w' (h : Mor w0 w') => hR0.mor h)
  have HM0 := Lib.hid hM0
  clear hM0 hbR
  refine (HIx.out _).mono ?_
  rintro e w1 ⟨rfl, rfl⟩
  have hR := HR.out _ (Mor.refl _)
  have f0 := hR.frozen 0
  have f1 := hR.frozen 1
  have f2 := hR.frozen 2
  have r0 := hR.cell 0
  have r1 := hR.cell 1
  have r2 := hR.cell 2
  have rl := hR.lt
  simp at r0 r1 r2
  have HRx := Lib.hid hR
  clear hR
  clear hR0
  go_wp2_with (go_at_call 79; (with_reducible refine (HLx.out _).mono ?_); rintro e w2 ⟨rfl, rfl⟩)
  have hb9 := ((HRx.out.set_ 0 (.string { data := #[] })).set_ 1 (.int .i64 0)).set_ 2 (.slice none 0 0)
  simp only [List.setIfInBounds_toArray, List.set_cons_zero, List.set_cons_succ] at hb9
  have hm9 := ((HM0.out.setC' (i := 0) (u := .string { data := #[] }) hwR).setC' (i := 1) (u := .int .i64 0) hwR).setC' (i := 2) (u := .slice none 0 0) hwR
  have q0 := hb9.cell 0
  have q1 := hb9.cell 1
  have q2 := hb9.cell 2
  simp at q0 q1 q2
  refine bodyPost_ret (v := .tuple #[.agg #[.string { data := #[] }, .int .i64 0, .slice none 0 0], .int .i64 0, .int .i64 3]) (by simp [results, Tryz.results53, go_sem, q0, q1, q2]; try rfl) rfl ?_
  exact ⟨rfl, by repeat (first | exact hm9 | apply Mor.drewN | apply Mor.drew)⟩

set_option maxRecDepth 100000 in
set_option maxHeartbeats 1600000 in
theorem read_no3b (s : ByteArray) (w : World) (hs : s.size ≤ maxLen) (hL : (rdL s).size ≤ 2000000) (ht : Tb w) (h : ¬ rdAt s < 0) (h2 : ¬ rdK s < 0) (h3 : ¬ rdOk (ub (rdN s))) :
    Calls Tryz.prog 53 #[.string s] w (ReadNo w 3) := by
  unfold maxLen at hs
  have hatl := rdAt_lt s
  obtain ⟨a, ha⟩ : ∃ a : Nat, rdAt s = a := ⟨(rdAt s).toNat, by omega⟩
  have HIx := Lib.hid (fun w => ixb s w)
  have hLe : rdL s = s.extract 0 a := by unfold rdL; rw [ha]; rfl
  have HLx := Lib.hid (fun w => lix s w (by omega))
  have hkl := rdK_lt s
  rw [ha] at HIx
  rw [hLe] at HLx hkl hL
  have hal : a ≤ s.size := by omega
  have hli : (a : Int) ≤ (s.size : Int) := by omega
  have ha0 : (0 : Int) ≤ (a : Int) := by omega
  obtain ⟨k, hk⟩ : ∃ k : Nat, rdK s = k := ⟨(rdK s).toNat, by omega⟩
  have hlz : (s.extract 0 a).size = a := by simp; omega
  have hNe : rdN s = (s.extract 0 a).extract (k + 2) a := by unfold rdN; rw [hk, hLe, hlz]; rfl
  have hPe : rdP s = (s.extract 0 a).extract 0 k := by unfold rdP; rw [hk, hLe]; rfl
  rw [hk] at HLx hkl
  rw [hlz] at hkl hL
  have hk2 : (k : Int) + 2 ≤ (a : Int) := by omega
  have hk0 : (0 : Int) ≤ (k : Int) := by omega
  have hka : k ≤ a := by omega
  have hNz : (rdN s).size ≤ 2000000 := by rw [hNe]; simp; omega
  have hPz : (rdP s).size ≤ 2000000 := by rw [hPe]; simp; omega
  have HAt := Lib.hid (fun w' (h : Mor w w') => atoi_any (rdN s) w' (by omega) (ht.mor h))
  have HT := Lib.hid (fun w' (h : Mor w w') => ht.mor h)
  have HNo := Lib.hid (fun v (h : Lib.atoiAll (ub (rdN s)) = .ok v) (h1 : 0 ≤ v) (h2 : v ≤ 65520) => show ((⟨(Lib.itoa v).toArray⟩ : ByteArray).toList == (rdN s).toList) = false by
    rw [str_eq]
    refine decide_eq_false fun e => h3 ⟨v, h, h1, h2, ?_⟩
    rw [← e, ub_mk])
  have HAv := Lib.hid (fun v (h : Lib.atoiAll (ub (rdN s)) = .ok v) => show atoiV (ub (rdN s)) = v by unfold atoiV; rw [h])
  rw [hNe] at HAt HNo HAv
  clear ha hatl hLe hNe hPe hk hlz hNz hPz h h2 h3 hkl ht
  generalize atoiV (ub ((s.extract 0 a).extract (k + 2) a)) = v at *
  go_enter Tryz.func53, Tryz.ntmps53
  go_wp2_with fail
  have hM0 := (Mor.refl w).alloc (o := .cells #[.string { data := #[] }, .int .i64 0, .slice none 0 0] 28)
  have hR0 := Bk.new w 28 #[.string { data := #[] }, .int .i64 0, .slice none 0 0]
  obtain ⟨bR, hbR⟩ : ∃ g, g = w.heap.size := ⟨_, rfl⟩
  rw [← hbR] at hR0 ⊢
  generalize w.alloc (.cells #[.string { data := #[] }, .int .i64 0, .slice none 0 0] 28) = w0 at *
  have hwR : w.heap.size ≤ bR := by omega
  have HR := Lib.hid (fun w' (h : Mor w0 w') => hR0.mor h)
  have HM0 := Lib.hid hM0
  clear hM0 hbR
  refine (HIx.out _).mono ?_
  rintro e w1 ⟨rfl, rfl⟩
  have hR := HR.out _ (Mor.refl _)
  have f0 := hR.frozen 0
  have f1 := hR.frozen 1
  have f2 := hR.frozen 2
  have r0 := hR.cell 0
  have r1 := hR.cell 1
  have r2 := hR.cell 2
  have rl := hR.lt
  simp at r0 r1 r2
  have HRx := Lib.hid hR
  clear hR
  clear hR0 HRx
  go_wp2_with (first
    | (go_at_call 79; (with_reducible refine (HLx.out _).mono ?_); rintro e w2 ⟨rfl, rfl⟩)
    | (go_at_call 80; (with_reducible refine (HAt.out _ HM0.out).mono ?_); rintro e w3 ⟨er, rfl, hm3, her⟩; refine Hid.out ?_))
  refine Lib.hid ?_
  have HM3 := Lib.hid hm3
  have HW3 := Lib.hid (HM0.out.trans' hm3)
  clear f0 f1 f2 r0 r1 r2 rl
  have hR := HR.out _ HM3.out
  have f0 := hR.frozen 0
  have f1 := hR.frozen 1
  have f2 := hR.frozen 2
  have r0 := hR.cell 0
  have r1 := hR.cell 1
  have r2 := hR.cell 2
  have rl := hR.lt
  simp at r0 r1 r2
  have HRx := Lib.hid hR
  clear hR
  rcases her with ⟨v', hv, rfl⟩ | ⟨hno, N', rfl⟩
  · obtain rfl := HAv.out v' hv
    have HNv := Lib.hid (HNo.out v hv)
    clear hv
    by_cases c1 : v < 0
    · clear HNv
      go_wp2_with fail
      go_quiet (fail)
      go_wp2_with fail
      have hb9 := ((HRx.out.set_ 0 (.string { data := #[] })).set_ 1 (.int .i64 0)).set_ 2 (.slice none 0 0)
      simp only [List.setIfInBounds_toArray, List.set_cons_zero, List.set_cons_succ] at hb9
      have hm9 := ((HW3.out.setC' (i := 0) (u := .string { data := #[] }) hwR).setC' (i := 1) (u := .int .i64 0) hwR).setC' (i := 2) (u := .slice none 0 0) hwR
      have q0 := hb9.cell 0
      have q1 := hb9.cell 1
      have q2 := hb9.cell 2
      simp at q0 q1 q2
      refine bodyPost_ret (v := .tuple #[.agg #[.string { data := #[] }, .int .i64 0, .slice none 0 0], .int .i64 0, .int .i64 3]) (by simp [results, Tryz.results53, go_sem, q0, q1, q2]; try rfl) rfl ?_
      exact ⟨rfl, by repeat (first | exact hm9 | apply Mor.drewN | apply Mor.drew)⟩
    · have d1 : decide (v < 0) = false := decide_eq_false c1
      by_cases c2 : 65520 < v
      · clear HNv
        go_wp2_with fail
        go_quiet (fail)
        go_wp2_with fail
        have hb9 := ((HRx.out.set_ 0 (.string { data := #[] })).set_ 1 (.int .i64 0)).set_ 2 (.slice none 0 0)
        simp only [List.setIfInBounds_toArray, List.set_cons_zero, List.set_cons_succ] at hb9
        have hm9 := ((HW3.out.setC' (i := 0) (u := .string { data := #[] }) hwR).setC' (i := 1) (u := .int .i64 0) hwR).setC' (i := 2) (u := .slice none 0 0) hwR
        have q0 := hb9.cell 0
        have q1 := hb9.cell 1
        have q2 := hb9.cell 2
        simp at q0 q1 q2
        refine bodyPost_ret (v := .tuple #[.agg #[.string { data := #[] }, .int .i64 0, .slice none 0 0], .int .i64 0, .int .i64 3]) (by simp [results, Tryz.results53, go_sem, q0, q1, q2]; try rfl) rfl ?_
        exact ⟨rfl, by repeat (first | exact hm9 | apply Mor.drewN | apply Mor.drew)⟩
      · have hne := HNv.out (by omega) (by omega)
        have hnl : (⟨(Lib.itoa v).toArray⟩ : ByteArray).toList = Lib.itoa v := by simp
        rw [hnl] at hne
        have hT2 : (s.extract 0 a).extract ((k : Int) + 2).toNat a = (s.extract 0 a).extract (k + 2) a := by rw [show ((k : Int) + 2).toNat = k + 2 by omega]
        have HIt := Lib.hid (fun w' (h : Mor w w') => itoa_any v w' (by omega) (by omega) (HT.out _ h))
        clear HNv
        generalize (s.extract 0 a).extract (k + 2) a = num at *
        have d2 : decide (65520 < v) = false := decide_eq_false c2
        have hmin : min a s.size = a := Nat.min_eq_left hal
        have hkN : k + 2 ≤ a := by omega
        have hkz : (0 : Int) ≤ (k : Int) + 2 := by omega
        have hwk : IntKind.i64.wrap ((k : Int) + 2) = (k : Int) + 2 := IntWalk.i64_in _ (by omega)
        go_wp2_with fail
        go_region_held3 (fun _ => True) (trivial) (first | (go_at_call 37; (with_reducible refine (HIt.out _ (by repeat (first | exact HW3.out | apply Mor.drewN | apply Mor.drew))).mono ?_); rintro e w5 ⟨rfl, bs, dk, rfl⟩))
        clear hwk
        refine Hid.out ?_
        have HM5 := Lib.hid (show Mor w3 (more w3 bs dk) from ⟨bs, dk, rfl⟩)
        have HW5 := Lib.hid (HW3.out.trans' HM5.out)
        generalize more w3 bs dk = w5 at *
        clear f0 f1 f2 r0 r1 r2 rl HRx
        have hR := HR.out _ (HM3.out.trans' HM5.out)
        have f0 := hR.frozen 0
        have f1 := hR.frozen 1
        have f2 := hR.frozen 2
        have r0 := hR.cell 0
        have r1 := hR.cell 1
        have r2 := hR.cell 2
        have rl := hR.lt
        simp at r0 r1 r2
        have HRx := Lib.hid hR
        clear hR
        refine Lib.hid ?_
        go_wp2_with fail
        have hb9 := ((HRx.out.set_ 0 (.string { data := #[] })).set_ 1 (.int .i64 0)).set_ 2 (.slice none 0 0)
        simp only [List.setIfInBounds_toArray, List.set_cons_zero, List.set_cons_succ] at hb9
        have hm9 := ((HW5.out.setC' (i := 0) (u := .string { data := #[] }) hwR).setC' (i := 1) (u := .int .i64 0) hwR).setC' (i := 2) (u := .slice none 0 0) hwR
        have q0 := hb9.cell 0
        have q1 := hb9.cell 1
        have q2 := hb9.cell 2
        simp at q0 q1 q2
        refine bodyPost_ret (v := .tuple #[.agg #[.string { data := #[] }, .int .i64 0, .slice none 0 0], .int .i64 0, .int .i64 3]) (by simp [results, Tryz.results53, go_sem, q0, q1, q2]; try rfl) rfl ?_
        exact ⟨rfl, by repeat (first | exact hm9 | apply Mor.drewN | apply Mor.drew)⟩
  · go_wp2_with fail
    go_quiet (fail)
    go_wp2_with fail
    have hb9 := ((HRx.out.set_ 0 (.string { data := #[] })).set_ 1 (.int .i64 0)).set_ 2 (.slice none 0 0)
    simp only [List.setIfInBounds_toArray, List.set_cons_zero, List.set_cons_succ] at hb9
    have hm9 := ((HW3.out.setC' (i := 0) (u := .string { data := #[] }) hwR).setC' (i := 1) (u := .int .i64 0) hwR).setC' (i := 2) (u := .slice none 0 0) hwR
    have q0 := hb9.cell 0
    have q1 := hb9.cell 1
    have q2 := hb9.cell 2
    simp at q0 q1 q2
    refine bodyPost_ret (v := .tuple #[.agg #[.string { data := #[] }, .int .i64 0, .slice none 0 0], .int .i64 0, .int .i64 3]) (by simp [results, Tryz.results53, go_sem, q0, q1, q2]; try rfl) rfl ?_
    exact ⟨rfl, by repeat (first | exact hm9 | apply Mor.drewN | apply Mor.drew)⟩

set_option maxRecDepth 100000 in
set_option maxHeartbeats 1600000 in
theorem read_no7 (s : ByteArray) (w : World) (hs : s.size ≤ maxLen) (hL : (rdL s).size ≤ 2000000) (ht : Tb w) (h : ¬ rdAt s < 0) (h2 : ¬ rdK s < 0) (h3 : rdOk (ub (rdN s))) (h4 : atoiV (ub (rdN s)) ≠ cks (ub (rdP s))) :
    Calls Tryz.prog 53 #[.string s] w (ReadNo w 7) := by
  unfold maxLen at hs
  have hatl := rdAt_lt s
  obtain ⟨a, ha⟩ : ∃ a : Nat, rdAt s = a := ⟨(rdAt s).toNat, by omega⟩
  have HIx := Lib.hid (fun w => ixb s w)
  have hLe : rdL s = s.extract 0 a := by unfold rdL; rw [ha]; rfl
  have HLx := Lib.hid (fun w => lix s w (by omega))
  have hkl := rdK_lt s
  rw [ha] at HIx
  rw [hLe] at HLx hkl hL
  have hal : a ≤ s.size := by omega
  have hli : (a : Int) ≤ (s.size : Int) := by omega
  have ha0 : (0 : Int) ≤ (a : Int) := by omega
  obtain ⟨k, hk⟩ : ∃ k : Nat, rdK s = k := ⟨(rdK s).toNat, by omega⟩
  have hlz : (s.extract 0 a).size = a := by simp; omega
  have hNe : rdN s = (s.extract 0 a).extract (k + 2) a := by unfold rdN; rw [hk, hLe, hlz]; rfl
  have hPe : rdP s = (s.extract 0 a).extract 0 k := by unfold rdP; rw [hk, hLe]; rfl
  rw [hk] at HLx hkl
  rw [hlz] at hkl hL
  have hk2 : (k : Int) + 2 ≤ (a : Int) := by omega
  have hk0 : (0 : Int) ≤ (k : Int) := by omega
  have hka : k ≤ a := by omega
  have hNz : (rdN s).size ≤ 2000000 := by rw [hNe]; simp; omega
  have hPz : (rdP s).size ≤ 2000000 := by rw [hPe]; simp; omega
  have HT := Lib.hid (fun w' (h : Mor w w') => ht.mor h)
  obtain ⟨v, hv, hv0, hv1, hvi⟩ := h3
  have hav : atoiV (ub (rdN s)) = v := by unfold atoiV; rw [hv]
  have hne : (Lib.itoa v == (rdN s).toList) = true := by
    rw [hvi, ByteArray.toList_eq]
    exact beq_self_eq_true _
  have HAt := Lib.hid (fun w' (h : Mor w w') => show Calls Tryz.prog 80 #[.string (rdN s)] w' (fun e w'' => e = .returned (.tuple #[.int .i64 v, .nilIface]) ∧ Mor w' w'') from (atoi_any (rdN s) w' (by omega) (ht.mor h)).mono (by
    rintro e w'' ⟨er, rfl, hm, ⟨v', _, rfl⟩ | ⟨hno, _⟩⟩
    · rw [hav]; exact ⟨rfl, hm⟩
    · exact absurd hv (hno v)))
  rw [hav] at h4
  have HSu := Lib.hid (fun w' => lsum_any (rdP s) w' (by omega))
  rw [show ckI (rdP s) (rdP s).size = (cks (ub (rdP s)) : Nat) by unfold ckI cks; rw [ub_len]] at HSu
  have HIt := Lib.hid (fun w' (h : Mor w w') => itoa_any v w' (by omega) (by omega) (HT.out _ h))
  have d1 : decide (v < 0) = false := decide_eq_false (by omega)
  have d2 : decide (65520 < v) = false := decide_eq_false (by omega)
  have hmin : min a s.size = a := Nat.min_eq_left hal
  have hkN : k + 2 ≤ a := by omega
  have hkz : (0 : Int) ≤ (k : Int) + 2 := by omega
  have hT2 : (s.extract 0 a).extract ((k : Int) + 2).toNat a = (s.extract 0 a).extract (k + 2) a := by rw [show ((k : Int) + 2).toNat = k + 2 by omega]
  generalize (cks (ub (rdP s)) : Int) = m at *
  have hvm : (v != m) = true := bne_iff_ne.2 h4
  have hvm2 : decide (v = m) = false := decide_eq_false h4
  rw [hPe] at HSu
  rw [hNe] at HAt hne
  clear ha hatl hLe hNe hPe hk hlz hNz hPz h h2 hkl ht hv hav hvi hv0 hv1 h4
  generalize (s.extract 0 a).extract (k + 2) a = num at *
  go_enter Tryz.func53, Tryz.ntmps53
  go_wp2_with fail
  have hM0 := (Mor.refl w).alloc (o := .cells #[.string { data := #[] }, .int .i64 0, .slice none 0 0] 28)
  have hR0 := Bk.new w 28 #[.string { data := #[] }, .int .i64 0, .slice none 0 0]
  obtain ⟨bR, hbR⟩ : ∃ g, g = w.heap.size := ⟨_, rfl⟩
  rw [← hbR] at hR0 ⊢
  generalize w.alloc (.cells #[.string { data := #[] }, .int .i64 0, .slice none 0 0] 28) = w0 at *
  have hwR : w.heap.size ≤ bR := by omega
  have HR := Lib.hid (fun w' (h : Mor w0 w') => hR0.mor h)
  have HM0 := Lib.hid hM0
  clear hM0 hbR
  refine (HIx.out _).mono ?_
  rintro e w1 ⟨rfl, rfl⟩
  have hR := HR.out _ (Mor.refl _)
  have f0 := hR.frozen 0
  have f1 := hR.frozen 1
  have f2 := hR.frozen 2
  have r0 := hR.cell 0
  have r1 := hR.cell 1
  have r2 := hR.cell 2
  have rl := hR.lt
  simp at r0 r1 r2
  have HRx := Lib.hid hR
  clear hR
  clear hR0 HRx
  go_wp2_with (first
    | (go_at_call 79; (with_reducible refine (HLx.out _).mono ?_); rintro e w2 ⟨rfl, rfl⟩)
    | (go_at_call 80; (with_reducible refine (HAt.out _ HM0.out).mono ?_); rintro e w3 ⟨rfl, hm3⟩; refine Hid.out ?_))
  refine Lib.hid ?_
  have HM3 := Lib.hid hm3
  have HW3 := Lib.hid (HM0.out.trans' hm3)
  clear f0 f1 f2 r0 r1 r2 rl hm3
  have hR := HR.out _ HM3.out
  have f0 := hR.frozen 0
  have f1 := hR.frozen 1
  have f2 := hR.frozen 2
  have r0 := hR.cell 0
  have r1 := hR.cell 1
  have r2 := hR.cell 2
  have rl := hR.lt
  simp at r0 r1 r2
  have HRx := Lib.hid hR
  clear hR
  have hwk : IntKind.i64.wrap ((k : Int) + 2) = (k : Int) + 2 := IntWalk.i64_in _ (by omega)
  go_wp2_with fail
  go_region_held3 (fun _ => True) (trivial) (first | (go_at_call 37; (with_reducible refine (HIt.out _ (by repeat (first | exact HW3.out | apply Mor.drewN | apply Mor.drew))).mono ?_); rintro e w5 ⟨rfl, bs, dk, rfl⟩))
  clear hwk
  refine Hid.out ?_
  have HM5 := Lib.hid (show Mor w3 (more w3 bs dk) from ⟨bs, dk, rfl⟩)
  have HW5 := Lib.hid (HW3.out.trans' HM5.out)
  generalize more w3 bs dk = w5 at *
  clear f0 f1 f2 r0 r1 r2 rl HRx
  have hR := HR.out _ (HM3.out.trans' HM5.out)
  have f0 := hR.frozen 0
  have f1 := hR.frozen 1
  have f2 := hR.frozen 2
  have r0 := hR.cell 0
  have r1 := hR.cell 1
  have r2 := hR.cell 2
  have rl := hR.lt
  simp at r0 r1 r2
  have HRx := Lib.hid hR
  clear hR
  refine Lib.hid ?_
  clear hne
  go_wp2_with (first | (go_at_call 38; (with_reducible refine (HSu.out _).mono ?_); rintro e w6 ⟨rfl, rfl⟩))
  have hb9 := ((HRx.out.set_ 0 (.string { data := #[] })).set_ 1 (.int .i64 0)).set_ 2 (.slice none 0 0)
  simp only [List.setIfInBounds_toArray, List.set_cons_zero, List.set_cons_succ] at hb9
  have hm9 := ((HW5.out.setC' (i := 0) (u := .string { data := #[] }) hwR).setC' (i := 1) (u := .int .i64 0) hwR).setC' (i := 2) (u := .slice none 0 0) hwR
  have q0 := hb9.cell 0
  have q1 := hb9.cell 1
  have q2 := hb9.cell 2
  simp at q0 q1 q2
  refine bodyPost_ret (v := .tuple #[.agg #[.string { data := #[] }, .int .i64 0, .slice none 0 0], .int .i64 0, .int .i64 7]) (by simp [results, Tryz.results53, go_sem, q0, q1, q2]; try rfl) rfl ?_
  exact ⟨rfl, by repeat (first | exact hm9 | apply Mor.drewN | apply Mor.drew)⟩

set_option maxRecDepth 100000 in
set_option maxHeartbeats 1600000 in
theorem read_no3c (s : ByteArray) (w : World) (hs : s.size ≤ maxLen) (hL : (rdL s).size ≤ 2000000) (ht : Tb w) (h : ¬ rdAt s < 0) (h2 : ¬ rdK s < 0) (h3 : rdOk (ub (rdN s))) (h4 : atoiV (ub (rdN s)) = cks (ub (rdP s))) (h5 : enc (rdE s) ≠ 0) :
    Calls Tryz.prog 53 #[.string s] w (ReadNo w 3) := by
  unfold maxLen at hs
  have hatl := rdAt_lt s
  obtain ⟨a, ha⟩ : ∃ a : Nat, rdAt s = a := ⟨(rdAt s).toNat, by omega⟩
  have HIx := Lib.hid (fun w => ixb s w)
  have hLe : rdL s = s.extract 0 a := by unfold rdL; rw [ha]; rfl
  have HLx := Lib.hid (fun w => lix s w (by omega))
  have hkl := rdK_lt s
  rw [ha] at HIx
  rw [hLe] at HLx hkl hL
  have hal : a ≤ s.size := by omega
  have hli : (a : Int) ≤ (s.size : Int) := by omega
  have ha0 : (0 : Int) ≤ (a : Int) := by omega
  obtain ⟨k, hk⟩ : ∃ k : Nat, rdK s = k := ⟨(rdK s).toNat, by omega⟩
  have hlz : (s.extract 0 a).size = a := by simp; omega
  have hNe : rdN s = (s.extract 0 a).extract (k + 2) a := by unfold rdN; rw [hk, hLe, hlz]; rfl
  have hPe : rdP s = (s.extract 0 a).extract 0 k := by unfold rdP; rw [hk, hLe]; rfl
  rw [hk] at HLx hkl
  rw [hlz] at hkl hL
  have hk2 : (k : Int) + 2 ≤ (a : Int) := by omega
  have hk0 : (0 : Int) ≤ (k : Int) := by omega
  have hka : k ≤ a := by omega
  have hNz : (rdN s).size ≤ 2000000 := by rw [hNe]; simp; omega
  have hPz : (rdP s).size ≤ 2000000 := by rw [hPe]; simp; omega
  have HT := Lib.hid (fun w' (h : Mor w w') => ht.mor h)
  obtain ⟨v, hv, hv0, hv1, hvi⟩ := h3
  have hav : atoiV (ub (rdN s)) = v := by unfold atoiV; rw [hv]
  have hne : (Lib.itoa v == (rdN s).toList) = true := by
    rw [hvi, ByteArray.toList_eq]
    exact beq_self_eq_true _
  have HAt := Lib.hid (fun w' (h : Mor w w') => show Calls Tryz.prog 80 #[.string (rdN s)] w' (fun e w'' => e = .returned (.tuple #[.int .i64 v, .nilIface]) ∧ Mor w' w'') from (atoi_any (rdN s) w' (by omega) (ht.mor h)).mono (by
    rintro e w'' ⟨er, rfl, hm, ⟨v', _, rfl⟩ | ⟨hno, _⟩⟩
    · rw [hav]; exact ⟨rfl, hm⟩
    · exact absurd hv (hno v)))
  rw [hav] at h4
  have HSu := Lib.hid (fun w' => lsum_any (rdP s) w' (by omega))
  rw [show ckI (rdP s) (rdP s).size = (cks (ub (rdP s)) : Nat) by unfold ckI cks; rw [ub_len]] at HSu
  have HIt := Lib.hid (fun w' (h : Mor w w') => itoa_any v w' (by omega) (by omega) (HT.out _ h))
  have d1 : decide (v < 0) = false := decide_eq_false (by omega)
  have d2 : decide (65520 < v) = false := decide_eq_false (by omega)
  have hmin : min a s.size = a := Nat.min_eq_left hal
  have hkN : k + 2 ≤ a := by omega
  have hkz : (0 : Int) ≤ (k : Int) + 2 := by omega
  have hT2 : (s.extract 0 a).extract ((k : Int) + 2).toNat a = (s.extract 0 a).extract (k + 2) a := by rw [show ((k : Int) + 2).toNat = k + 2 by omega]
  have HPa := Lib.hid (fun w' (h : Mor w w') => parse_any (rdP s) w' hPz (ht.mor h))
  have hkys := rdE_key s
  have HWr := Lib.hid (fun A n c w' (h : Mor w w') (hx : Lq w' A n c (rdE s).ls) => lwrite_no (rdE s) A n c w' hx (by unfold maxLen; omega) h5)
  have hX : (enc (rdE s) != 0) = true := bne_iff_ne.2 h5
  have hX2 : decide (enc (rdE s) = 0) = false := decide_eq_false h5
  generalize enc (rdE s) = X at *
  rw [show parseB (rdP s) = rdE s from rfl] at HPa
  generalize (rdE s).key = ky at *
  generalize (rdE s).day = dy at *
  generalize (rdE s).ls = ls at *
  generalize (cks (ub (rdP s)) : Int) = m at *
  have hvm : (v != m) = false := by rw [h4]; simp
  have hvm2 : decide (v = m) = true := decide_eq_true h4
  rw [hPe] at HSu HPa
  rw [hNe] at HAt hne
  have hat1 : (a : Int) + 1 ≤ (s.size : Int) := by omega
  have hat0 : (0 : Int) ≤ (a : Int) + 1 := by omega
  have hatw : IntKind.i64.wrap ((a : Int) + 1) = (a : Int) + 1 := IntWalk.i64_in _ (by omega)
  clear ha hatl hLe hNe hPe hk hlz hNz hPz h h2 hkl ht hv hav hvi hv0 hv1 h4 hkys
  generalize (s.extract 0 a).extract (k + 2) a = num at *
  clear h5
  go_enter Tryz.func53, Tryz.ntmps53
  go_wp2_with fail
  have hM0 := (Mor.refl w).alloc (o := .cells #[.string { data := #[] }, .int .i64 0, .slice none 0 0] 28)
  have hR0 := Bk.new w 28 #[.string { data := #[] }, .int .i64 0, .slice none 0 0]
  obtain ⟨bR, hbR⟩ : ∃ g, g = w.heap.size := ⟨_, rfl⟩
  rw [← hbR] at hR0 ⊢
  generalize w.alloc (.cells #[.string { data := #[] }, .int .i64 0, .slice none 0 0] 28) = w0 at *
  have hwR : w.heap.size ≤ bR := by omega
  have HR := Lib.hid (fun w' (h : Mor w0 w') => hR0.mor h)
  have HM0 := Lib.hid hM0
  clear hM0 hbR
  refine (HIx.out _).mono ?_
  rintro e w1 ⟨rfl, rfl⟩
  have hR := HR.out _ (Mor.refl _)
  have f0 := hR.frozen 0
  have f1 := hR.frozen 1
  have f2 := hR.frozen 2
  have r0 := hR.cell 0
  have r1 := hR.cell 1
  have r2 := hR.cell 2
  have rl := hR.lt
  simp at r0 r1 r2
  have HRx := Lib.hid hR
  clear hR
  clear hR0 HRx
  go_wp2_with (first
    | (go_at_call 79; (with_reducible refine (HLx.out _).mono ?_); rintro e w2 ⟨rfl, rfl⟩)
    | (go_at_call 80; (with_reducible refine (HAt.out _ HM0.out).mono ?_); rintro e w3 ⟨rfl, hm3⟩; refine Hid.out ?_))
  refine Lib.hid ?_
  have HM3 := Lib.hid hm3
  have HW3 := Lib.hid (HM0.out.trans' hm3)
  clear f0 f1 f2 r0 r1 r2 rl hm3
  have hR := HR.out _ HM3.out
  have f0 := hR.frozen 0
  have f1 := hR.frozen 1
  have f2 := hR.frozen 2
  have r0 := hR.cell 0
  have r1 := hR.cell 1
  have r2 := hR.cell 2
  have rl := hR.lt
  simp at r0 r1 r2
  have HRx := Lib.hid hR
  clear hR
  have hwk : IntKind.i64.wrap ((k : Int) + 2) = (k : Int) + 2 := IntWalk.i64_in _ (by omega)
  go_wp2_with fail
  go_region_held3 (fun _ => True) (trivial) (first | (go_at_call 37; (with_reducible refine (HIt.out _ (by repeat (first | exact HW3.out | apply Mor.drewN | apply Mor.drew))).mono ?_); rintro e w5 ⟨rfl, bs, dk, rfl⟩))
  clear hwk
  refine Hid.out ?_
  have HM5 := Lib.hid (show Mor w3 (more w3 bs dk) from ⟨bs, dk, rfl⟩)
  have HW5 := Lib.hid (HW3.out.trans' HM5.out)
  generalize more w3 bs dk = w5 at *
  clear f0 f1 f2 r0 r1 r2 rl HRx
  have hR := HR.out _ (HM3.out.trans' HM5.out)
  have f0 := hR.frozen 0
  have f1 := hR.frozen 1
  have f2 := hR.frozen 2
  have r0 := hR.cell 0
  have r1 := hR.cell 1
  have r2 := hR.cell 2
  have rl := hR.lt
  simp at r0 r1 r2
  have HRx := Lib.hid hR
  clear hR
  refine Lib.hid ?_
  clear hne
  go_wp2_with (first
    | (go_at_call 38; (with_reducible refine (HSu.out _).mono ?_); rintro e w6 ⟨rfl, rfl⟩)
    | (go_at_call 81; (with_reducible refine (HPa.out _ HW5.out).mono ?_); rintro e w6 ⟨A6, n6, c6, rfl, ⟨hL6, hO6⟩, hm6⟩; have HO6 := Lib.hid (own_mor hO6 ((Mor.refl _).alloc (o := .cells #[.string ky, .int .i64 dy, .slice A6 n6 c6] 28))); clear hO6; have HM6 := Lib.hid (hm6.alloc (o := .cells #[.string ky, .int .i64 dy, .slice A6 n6 c6] 28)); have HW6 := Lib.hid (HW5.out.trans' HM6.out); have HL6 := Lib.hid (hL6.mor ((Mor.refl _).alloc (o := .cells #[.string ky, .int .i64 dy, .slice A6 n6 c6] 28))); have HE6 := Lib.hid (Bk.new w6 28 #[.string ky, .int .i64 dy, .slice A6 n6 c6]); clear hL6)
    | (go_at_call 8; (with_reducible refine (HWr.out A6 n6 c6 _ HW6.out HL6.out).mono ?_); rintro e w7 ⟨rfl, hm7⟩; refine Hid.out ?_))
  refine Lib.hid ?_
  have HM7 := Lib.hid (HM6.out.trans' hm7)
  have HW7 := Lib.hid (HW6.out.trans' hm7)
  have HL7 := Lib.hid (HL6.out.mor hm7)
  have HE7 := Lib.hid (HE6.out.mor hm7)
  have HO7 := Lib.hid (own_mor HO6.out hm7)
  clear f0 f1 f2 r0 r1 r2 rl hm7
  have hR := HR.out _ ((HM3.out.trans' HM5.out).trans' HM7.out)
  have f0 := hR.frozen 0
  have f1 := hR.frozen 1
  have f2 := hR.frozen 2
  have r0 := hR.cell 0
  have r1 := hR.cell 1
  have r2 := hR.cell 2
  have rl := hR.lt
  simp at r0 r1 r2
  have HRx := Lib.hid hR
  clear hR
  go_wp2_with fail
  have hb9 := ((HRx.out.set_ 0 (.string { data := #[] })).set_ 1 (.int .i64 0)).set_ 2 (.slice none 0 0)
  simp only [List.setIfInBounds_toArray, List.set_cons_zero, List.set_cons_succ] at hb9
  have hm9 := ((HW7.out.setC' (i := 0) (u := .string { data := #[] }) hwR).setC' (i := 1) (u := .int .i64 0) hwR).setC' (i := 2) (u := .slice none 0 0) hwR
  have q0 := hb9.cell 0
  have q1 := hb9.cell 1
  have q2 := hb9.cell 2
  simp at q0 q1 q2
  refine bodyPost_ret (v := .tuple #[.agg #[.string { data := #[] }, .int .i64 0, .slice none 0 0], .int .i64 0, .int .i64 3]) (by simp [results, Tryz.results53, go_sem, q0, q1, q2]; try rfl) rfl ?_
  exact ⟨rfl, by repeat (first | exact hm9 | apply Mor.drewN | apply Mor.drew)⟩

set_option maxRecDepth 100000 in
set_option maxHeartbeats 1600000 in
theorem read_no3d (s : ByteArray) (w : World) (hs : s.size ≤ maxLen) (hL : (rdL s).size ≤ 2000000) (ht : Tb w) (h : ¬ rdAt s < 0) (h2 : ¬ rdK s < 0) (h3 : rdOk (ub (rdN s))) (h4 : atoiV (ub (rdN s)) = cks (ub (rdP s))) (h5 : enc (rdE s) = 0) (h6 : textT (rdE s) ≠ ub (s.extract 0 ((rdAt s).toNat + 1))) :
    Calls Tryz.prog 53 #[.string s] w (ReadNo w 3) := by
  unfold maxLen at hs
  have hatl := rdAt_lt s
  obtain ⟨a, ha⟩ : ∃ a : Nat, rdAt s = a := ⟨(rdAt s).toNat, by omega⟩
  have HIx := Lib.hid (fun w => ixb s w)
  have hLe : rdL s = s.extract 0 a := by unfold rdL; rw [ha]; rfl
  have HLx := Lib.hid (fun w => lix s w (by omega))
  have hkl := rdK_lt s
  rw [ha] at HIx
  rw [hLe] at HLx hkl hL
  have hal : a ≤ s.size := by omega
  have hli : (a : Int) ≤ (s.size : Int) := by omega
  have ha0 : (0 : Int) ≤ (a : Int) := by omega
  obtain ⟨k, hk⟩ : ∃ k : Nat, rdK s = k := ⟨(rdK s).toNat, by omega⟩
  have hlz : (s.extract 0 a).size = a := by simp; omega
  have hNe : rdN s = (s.extract 0 a).extract (k + 2) a := by unfold rdN; rw [hk, hLe, hlz]; rfl
  have hPe : rdP s = (s.extract 0 a).extract 0 k := by unfold rdP; rw [hk, hLe]; rfl
  rw [hk] at HLx hkl
  rw [hlz] at hkl hL
  have hk2 : (k : Int) + 2 ≤ (a : Int) := by omega
  have hk0 : (0 : Int) ≤ (k : Int) := by omega
  have hka : k ≤ a := by omega
  have hNz : (rdN s).size ≤ 2000000 := by rw [hNe]; simp; omega
  have hPz : (rdP s).size ≤ 2000000 := by rw [hPe]; simp; omega
  have HT := Lib.hid (fun w' (h : Mor w w') => ht.mor h)
  obtain ⟨v, hv, hv0, hv1, hvi⟩ := h3
  have hav : atoiV (ub (rdN s)) = v := by unfold atoiV; rw [hv]
  have hne : (Lib.itoa v == (rdN s).toList) = true := by
    rw [hvi, ByteArray.toList_eq]
    exact beq_self_eq_true _
  have HAt := Lib.hid (fun w' (h : Mor w w') => show Calls Tryz.prog 80 #[.string (rdN s)] w' (fun e w'' => e = .returned (.tuple #[.int .i64 v, .nilIface]) ∧ Mor w' w'') from (atoi_any (rdN s) w' (by omega) (ht.mor h)).mono (by
    rintro e w'' ⟨er, rfl, hm, ⟨v', _, rfl⟩ | ⟨hno, _⟩⟩
    · rw [hav]; exact ⟨rfl, hm⟩
    · exact absurd hv (hno v)))
  rw [hav] at h4
  have HSu := Lib.hid (fun w' => lsum_any (rdP s) w' (by omega))
  rw [show ckI (rdP s) (rdP s).size = (cks (ub (rdP s)) : Nat) by unfold ckI cks; rw [ub_len]] at HSu
  have HIt := Lib.hid (fun w' (h : Mor w w') => itoa_any v w' (by omega) (by omega) (HT.out _ h))
  have d1 : decide (v < 0) = false := decide_eq_false (by omega)
  have d2 : decide (65520 < v) = false := decide_eq_false (by omega)
  have hmin : min a s.size = a := Nat.min_eq_left hal
  have hkN : k + 2 ≤ a := by omega
  have hkz : (0 : Int) ≤ (k : Int) + 2 := by omega
  have hT2 : (s.extract 0 a).extract ((k : Int) + 2).toNat a = (s.extract 0 a).extract (k + 2) a := by rw [show ((k : Int) + 2).toNat = k + 2 by omega]
  have HPa := Lib.hid (fun w' (h : Mor w w') => parse_any (rdP s) w' hPz (ht.mor h))
  have hkys := rdE_key s
  have hTl : textB (rdE s) = ⟨(textT (rdE s)).toArray⟩ := rfl
  have HWr := Lib.hid (fun A n c w' (h : Mor w w') (hx : Lq w' A n c (rdE s).ls) => lwrite_ok (rdE s) A n c w' hx (by unfold maxLen; omega) (ht.mor h) h5)
  have hTe : ((textB (rdE s)).toList == (s.extract 0 (a + 1)).toList) = false := by
    rw [ByteArray.toList_eq, ByteArray.toList_eq, show (textB (rdE s)).data.toList = textT (rdE s) from textB_ub _]
    rw [ha] at h6
    exact beq_eq_false_iff_ne.2 h6
  have hT4 : s.extract 0 ((a : Int) + 1).toNat = s.extract 0 (a + 1) := by rw [show ((a : Int) + 1).toNat = a + 1 by omega]
  clear hTl h6 h5
  generalize textB (rdE s) = T at *
  rw [show parseB (rdP s) = rdE s from rfl] at HPa
  generalize (rdE s).key = ky at *
  generalize (rdE s).day = dy at *
  generalize (rdE s).ls = ls at *
  generalize (cks (ub (rdP s)) : Int) = m at *
  have hvm : (v != m) = false := by rw [h4]; simp
  have hvm2 : decide (v = m) = true := decide_eq_true h4
  rw [hPe] at HSu HPa
  rw [hNe] at HAt hne
  have hat1 : (a : Int) + 1 ≤ (s.size : Int) := by omega
  have hat0 : (0 : Int) ≤ (a : Int) + 1 := by omega
  have hatw : IntKind.i64.wrap ((a : Int) + 1) = (a : Int) + 1 := IntWalk.i64_in _ (by omega)
  clear ha hatl hLe hNe hPe hk hlz hNz hPz h h2 hkl ht hv hav hvi hv0 hv1 h4 hkys
  generalize (s.extract 0 a).extract (k + 2) a = num at *
  go_enter Tryz.func53, Tryz.ntmps53
  go_wp2_with fail
  have hM0 := (Mor.refl w).alloc (o := .cells #[.string { data := #[] }, .int .i64 0, .slice none 0 0] 28)
  have hR0 := Bk.new w 28 #[.string { data := #[] }, .int .i64 0, .slice none 0 0]
  obtain ⟨bR, hbR⟩ : ∃ g, g = w.heap.size := ⟨_, rfl⟩
  rw [← hbR] at hR0 ⊢
  generalize w.alloc (.cells #[.string { data := #[] }, .int .i64 0, .slice none 0 0] 28) = w0 at *
  have hwR : w.heap.size ≤ bR := by omega
  have HR := Lib.hid (fun w' (h : Mor w0 w') => hR0.mor h)
  have HM0 := Lib.hid hM0
  clear hM0 hbR
  refine (HIx.out _).mono ?_
  rintro e w1 ⟨rfl, rfl⟩
  have hR := HR.out _ (Mor.refl _)
  have f0 := hR.frozen 0
  have f1 := hR.frozen 1
  have f2 := hR.frozen 2
  have r0 := hR.cell 0
  have r1 := hR.cell 1
  have r2 := hR.cell 2
  have rl := hR.lt
  simp at r0 r1 r2
  have HRx := Lib.hid hR
  clear hR
  clear hR0 HRx
  go_wp2_with (first
    | (go_at_call 79; (with_reducible refine (HLx.out _).mono ?_); rintro e w2 ⟨rfl, rfl⟩)
    | (go_at_call 80; (with_reducible refine (HAt.out _ HM0.out).mono ?_); rintro e w3 ⟨rfl, hm3⟩; refine Hid.out ?_))
  refine Lib.hid ?_
  have HM3 := Lib.hid hm3
  have HW3 := Lib.hid (HM0.out.trans' hm3)
  clear f0 f1 f2 r0 r1 r2 rl hm3
  have hR := HR.out _ HM3.out
  have f0 := hR.frozen 0
  have f1 := hR.frozen 1
  have f2 := hR.frozen 2
  have r0 := hR.cell 0
  have r1 := hR.cell 1
  have r2 := hR.cell 2
  have rl := hR.lt
  simp at r0 r1 r2
  have HRx := Lib.hid hR
  clear hR
  have hwk : IntKind.i64.wrap ((k : Int) + 2) = (k : Int) + 2 := IntWalk.i64_in _ (by omega)
  go_wp2_with fail
  go_region_held3 (fun _ => True) (trivial) (first | (go_at_call 37; (with_reducible refine (HIt.out _ (by repeat (first | exact HW3.out | apply Mor.drewN | apply Mor.drew))).mono ?_); rintro e w5 ⟨rfl, bs, dk, rfl⟩))
  clear hwk
  refine Hid.out ?_
  have HM5 := Lib.hid (show Mor w3 (more w3 bs dk) from ⟨bs, dk, rfl⟩)
  have HW5 := Lib.hid (HW3.out.trans' HM5.out)
  generalize more w3 bs dk = w5 at *
  clear f0 f1 f2 r0 r1 r2 rl HRx
  have hR := HR.out _ (HM3.out.trans' HM5.out)
  have f0 := hR.frozen 0
  have f1 := hR.frozen 1
  have f2 := hR.frozen 2
  have r0 := hR.cell 0
  have r1 := hR.cell 1
  have r2 := hR.cell 2
  have rl := hR.lt
  simp at r0 r1 r2
  have HRx := Lib.hid hR
  clear hR
  refine Lib.hid ?_
  clear hne
  go_wp2_with (first
    | (go_at_call 38; (with_reducible refine (HSu.out _).mono ?_); rintro e w6 ⟨rfl, rfl⟩)
    | (go_at_call 81; (with_reducible refine (HPa.out _ HW5.out).mono ?_); rintro e w6 ⟨A6, n6, c6, rfl, ⟨hL6, hO6⟩, hm6⟩; have HO6 := Lib.hid (own_mor hO6 ((Mor.refl _).alloc (o := .cells #[.string ky, .int .i64 dy, .slice A6 n6 c6] 28))); clear hO6; have HM6 := Lib.hid (hm6.alloc (o := .cells #[.string ky, .int .i64 dy, .slice A6 n6 c6] 28)); have HW6 := Lib.hid (HW5.out.trans' HM6.out); have HL6 := Lib.hid (hL6.mor ((Mor.refl _).alloc (o := .cells #[.string ky, .int .i64 dy, .slice A6 n6 c6] 28))); have HE6 := Lib.hid (Bk.new w6 28 #[.string ky, .int .i64 dy, .slice A6 n6 c6]); clear hL6)
    | (go_at_call 8; (with_reducible refine (HWr.out A6 n6 c6 _ HW6.out HL6.out).mono ?_); rintro e w7 ⟨rfl, hm7⟩; refine Hid.out ?_))
  refine Lib.hid ?_
  have HM7 := Lib.hid (HM6.out.trans' hm7)
  have HW7 := Lib.hid (HW6.out.trans' hm7)
  have HL7 := Lib.hid (HL6.out.mor hm7)
  have HE7 := Lib.hid (HE6.out.mor hm7)
  have HO7 := Lib.hid (own_mor HO6.out hm7)
  clear f0 f1 f2 r0 r1 r2 rl hm7
  have hR := HR.out _ ((HM3.out.trans' HM5.out).trans' HM7.out)
  have f0 := hR.frozen 0
  have f1 := hR.frozen 1
  have f2 := hR.frozen 2
  have r0 := hR.cell 0
  have r1 := hR.cell 1
  have r2 := hR.cell 2
  have rl := hR.lt
  simp at r0 r1 r2
  have HRx := Lib.hid hR
  clear hR
  go_wp2_with fail
  have hb9 := ((HRx.out.set_ 0 (.string { data := #[] })).set_ 1 (.int .i64 0)).set_ 2 (.slice none 0 0)
  simp only [List.setIfInBounds_toArray, List.set_cons_zero, List.set_cons_succ] at hb9
  have hm9 := ((HW7.out.setC' (i := 0) (u := .string { data := #[] }) hwR).setC' (i := 1) (u := .int .i64 0) hwR).setC' (i := 2) (u := .slice none 0 0) hwR
  have q0 := hb9.cell 0
  have q1 := hb9.cell 1
  have q2 := hb9.cell 2
  simp at q0 q1 q2
  refine bodyPost_ret (v := .tuple #[.agg #[.string { data := #[] }, .int .i64 0, .slice none 0 0], .int .i64 0, .int .i64 3]) (by simp [results, Tryz.results53, go_sem, q0, q1, q2]; try rfl) rfl ?_
  exact ⟨rfl, by repeat (first | exact hm9 | apply Mor.drewN | apply Mor.drew)⟩

set_option maxRecDepth 100000 in
set_option maxHeartbeats 1600000 in
theorem read_ok (s : ByteArray) (w : World) (hs : s.size ≤ maxLen) (hL : (rdL s).size ≤ 2000000) (ht : Tb w) (h : ¬ rdAt s < 0) (h2 : ¬ rdK s < 0) (h3 : rdOk (ub (rdN s))) (h4 : atoiV (ub (rdN s)) = cks (ub (rdP s))) (h5 : enc (rdE s) = 0) (h6 : textT (rdE s) = ub (s.extract 0 ((rdAt s).toNat + 1))) :
    Calls Tryz.prog 53 #[.string s] w (ReadYes w (rdE s) (rdAt s + 1)) := by
  unfold maxLen at hs
  have hatl := rdAt_lt s
  obtain ⟨a, ha⟩ : ∃ a : Nat, rdAt s = a := ⟨(rdAt s).toNat, by omega⟩
  have HIx := Lib.hid (fun w => ixb s w)
  have hLe : rdL s = s.extract 0 a := by unfold rdL; rw [ha]; rfl
  have HLx := Lib.hid (fun w => lix s w (by omega))
  have hkl := rdK_lt s
  rw [ha] at HIx
  rw [hLe] at HLx hkl hL
  have hal : a ≤ s.size := by omega
  have hli : (a : Int) ≤ (s.size : Int) := by omega
  have ha0 : (0 : Int) ≤ (a : Int) := by omega
  obtain ⟨k, hk⟩ : ∃ k : Nat, rdK s = k := ⟨(rdK s).toNat, by omega⟩
  have hlz : (s.extract 0 a).size = a := by simp; omega
  have hNe : rdN s = (s.extract 0 a).extract (k + 2) a := by unfold rdN; rw [hk, hLe, hlz]; rfl
  have hPe : rdP s = (s.extract 0 a).extract 0 k := by unfold rdP; rw [hk, hLe]; rfl
  rw [hk] at HLx hkl
  rw [hlz] at hkl hL
  have hk2 : (k : Int) + 2 ≤ (a : Int) := by omega
  have hk0 : (0 : Int) ≤ (k : Int) := by omega
  have hka : k ≤ a := by omega
  have hNz : (rdN s).size ≤ 2000000 := by rw [hNe]; simp; omega
  have hPz : (rdP s).size ≤ 2000000 := by rw [hPe]; simp; omega
  have HT := Lib.hid (fun w' (h : Mor w w') => ht.mor h)
  obtain ⟨v, hv, hv0, hv1, hvi⟩ := h3
  have hav : atoiV (ub (rdN s)) = v := by unfold atoiV; rw [hv]
  have hne : (Lib.itoa v == (rdN s).toList) = true := by
    rw [hvi, ByteArray.toList_eq]
    exact beq_self_eq_true _
  have HAt := Lib.hid (fun w' (h : Mor w w') => show Calls Tryz.prog 80 #[.string (rdN s)] w' (fun e w'' => e = .returned (.tuple #[.int .i64 v, .nilIface]) ∧ Mor w' w'') from (atoi_any (rdN s) w' (by omega) (ht.mor h)).mono (by
    rintro e w'' ⟨er, rfl, hm, ⟨v', _, rfl⟩ | ⟨hno, _⟩⟩
    · rw [hav]; exact ⟨rfl, hm⟩
    · exact absurd hv (hno v)))
  rw [hav] at h4
  have HSu := Lib.hid (fun w' => lsum_any (rdP s) w' (by omega))
  rw [show ckI (rdP s) (rdP s).size = (cks (ub (rdP s)) : Nat) by unfold ckI cks; rw [ub_len]] at HSu
  have HIt := Lib.hid (fun w' (h : Mor w w') => itoa_any v w' (by omega) (by omega) (HT.out _ h))
  have d1 : decide (v < 0) = false := decide_eq_false (by omega)
  have d2 : decide (65520 < v) = false := decide_eq_false (by omega)
  have hmin : min a s.size = a := Nat.min_eq_left hal
  have hkN : k + 2 ≤ a := by omega
  have hkz : (0 : Int) ≤ (k : Int) + 2 := by omega
  have hT2 : (s.extract 0 a).extract ((k : Int) + 2).toNat a = (s.extract 0 a).extract (k + 2) a := by rw [show ((k : Int) + 2).toNat = k + 2 by omega]
  have HPa := Lib.hid (fun w' (h : Mor w w') => parse_any (rdP s) w' hPz (ht.mor h))
  have hkys := rdE_key s
  have hTl : textB (rdE s) = ⟨(textT (rdE s)).toArray⟩ := rfl
  have HWr := Lib.hid (fun A n c w' (h : Mor w w') (hx : Lq w' A n c (rdE s).ls) => lwrite_ok (rdE s) A n c w' hx (by unfold maxLen; omega) (ht.mor h) h5)
  have hTe : ((textB (rdE s)).toList == (s.extract 0 (a + 1)).toList) = true := by
    rw [ByteArray.toList_eq, ByteArray.toList_eq, show (textB (rdE s)).data.toList = textT (rdE s) from textB_ub _]
    rw [ha] at h6
    exact beq_iff_eq.2 h6
  have hT4 : s.extract 0 ((a : Int) + 1).toNat = s.extract 0 (a + 1) := by rw [show ((a : Int) + 1).toNat = a + 1 by omega]
  clear hTl h6 h5
  generalize textB (rdE s) = T at *
  rw [show parseB (rdP s) = rdE s from rfl] at HPa
  show Calls _ _ _ _ (RY w (rdE s).key (rdE s).day (rdE s).ls (rdAt s + 1))
  rw [ha]
  generalize (rdE s).key = ky at *
  generalize (rdE s).day = dy at *
  generalize (rdE s).ls = ls at *
  generalize (cks (ub (rdP s)) : Int) = m at *
  have hvm : (v != m) = false := by rw [h4]; simp
  have hvm2 : decide (v = m) = true := decide_eq_true h4
  rw [hPe] at HSu HPa
  rw [hNe] at HAt hne
  have hat1 : (a : Int) + 1 ≤ (s.size : Int) := by omega
  have hat0 : (0 : Int) ≤ (a : Int) + 1 := by omega
  have hatw : IntKind.i64.wrap ((a : Int) + 1) = (a : Int) + 1 := IntWalk.i64_in _ (by omega)
  clear ha hatl hLe hNe hPe hk hlz hNz hPz h h2 hkl ht hv hav hvi hv0 hv1 h4 hkys
  generalize (s.extract 0 a).extract (k + 2) a = num at *
  go_enter Tryz.func53, Tryz.ntmps53
  go_wp2_with fail
  have hM0 := (Mor.refl w).alloc (o := .cells #[.string { data := #[] }, .int .i64 0, .slice none 0 0] 28)
  have hR0 := Bk.new w 28 #[.string { data := #[] }, .int .i64 0, .slice none 0 0]
  obtain ⟨bR, hbR⟩ : ∃ g, g = w.heap.size := ⟨_, rfl⟩
  rw [← hbR] at hR0 ⊢
  generalize w.alloc (.cells #[.string { data := #[] }, .int .i64 0, .slice none 0 0] 28) = w0 at *
  have hwR : w.heap.size ≤ bR := by omega
  have HR := Lib.hid (fun w' (h : Mor w0 w') => hR0.mor h)
  have HM0 := Lib.hid hM0
  clear hM0 hbR
  refine (HIx.out _).mono ?_
  rintro e w1 ⟨rfl, rfl⟩
  have hR := HR.out _ (Mor.refl _)
  have f0 := hR.frozen 0
  have f1 := hR.frozen 1
  have f2 := hR.frozen 2
  have r0 := hR.cell 0
  have r1 := hR.cell 1
  have r2 := hR.cell 2
  have rl := hR.lt
  simp at r0 r1 r2
  have HRx := Lib.hid hR
  clear hR
  clear hR0 HRx
  go_wp2_with (first
    | (go_at_call 79; (with_reducible refine (HLx.out _).mono ?_); rintro e w2 ⟨rfl, rfl⟩)
    | (go_at_call 80; (with_reducible refine (HAt.out _ HM0.out).mono ?_); rintro e w3 ⟨rfl, hm3⟩; refine Hid.out ?_))
  refine Lib.hid ?_
  have HM3 := Lib.hid hm3
  have HW3 := Lib.hid (HM0.out.trans' hm3)
  clear f0 f1 f2 r0 r1 r2 rl hm3
  have hR := HR.out _ HM3.out
  have f0 := hR.frozen 0
  have f1 := hR.frozen 1
  have f2 := hR.frozen 2
  have r0 := hR.cell 0
  have r1 := hR.cell 1
  have r2 := hR.cell 2
  have rl := hR.lt
  simp at r0 r1 r2
  have HRx := Lib.hid hR
  clear hR
  have hwk : IntKind.i64.wrap ((k : Int) + 2) = (k : Int) + 2 := IntWalk.i64_in _ (by omega)
  go_wp2_with fail
  go_region_held3 (fun _ => True) (trivial) (first | (go_at_call 37; (with_reducible refine (HIt.out _ (by repeat (first | exact HW3.out | apply Mor.drewN | apply Mor.drew))).mono ?_); rintro e w5 ⟨rfl, bs, dk, rfl⟩))
  clear hwk
  refine Hid.out ?_
  have HM5 := Lib.hid (show Mor w3 (more w3 bs dk) from ⟨bs, dk, rfl⟩)
  have HW5 := Lib.hid (HW3.out.trans' HM5.out)
  generalize more w3 bs dk = w5 at *
  clear f0 f1 f2 r0 r1 r2 rl HRx
  have hR := HR.out _ (HM3.out.trans' HM5.out)
  have f0 := hR.frozen 0
  have f1 := hR.frozen 1
  have f2 := hR.frozen 2
  have r0 := hR.cell 0
  have r1 := hR.cell 1
  have r2 := hR.cell 2
  have rl := hR.lt
  simp at r0 r1 r2
  have HRx := Lib.hid hR
  clear hR
  refine Lib.hid ?_
  clear hne
  go_wp2_with (first
    | (go_at_call 38; (with_reducible refine (HSu.out _).mono ?_); rintro e w6 ⟨rfl, rfl⟩)
    | (go_at_call 81; (with_reducible refine (HPa.out _ HW5.out).mono ?_); rintro e w6 ⟨A6, n6, c6, rfl, ⟨hL6, hO6⟩, hm6⟩; have HO6 := Lib.hid (own_mor hO6 ((Mor.refl _).alloc (o := .cells #[.string ky, .int .i64 dy, .slice A6 n6 c6] 28))); clear hO6; have HM6 := Lib.hid (hm6.alloc (o := .cells #[.string ky, .int .i64 dy, .slice A6 n6 c6] 28)); have HW6 := Lib.hid (HW5.out.trans' HM6.out); have HL6 := Lib.hid (hL6.mor ((Mor.refl _).alloc (o := .cells #[.string ky, .int .i64 dy, .slice A6 n6 c6] 28))); have HE6 := Lib.hid (Bk.new w6 28 #[.string ky, .int .i64 dy, .slice A6 n6 c6]); clear hL6)
    | (go_at_call 8; (with_reducible refine (HWr.out A6 n6 c6 _ HW6.out HL6.out).mono ?_); rintro e w7 ⟨rfl, hm7⟩; refine Hid.out ?_))
  refine Lib.hid ?_
  have HM7 := Lib.hid (HM6.out.trans' hm7)
  have HW7 := Lib.hid (HW6.out.trans' hm7)
  have HL7 := Lib.hid (HL6.out.mor hm7)
  have HE7 := Lib.hid (HE6.out.mor hm7)
  have HO7 := Lib.hid (own_mor HO6.out hm7)
  clear f0 f1 f2 r0 r1 r2 rl hm7
  have hR := HR.out _ ((HM3.out.trans' HM5.out).trans' HM7.out)
  have f0 := hR.frozen 0
  have f1 := hR.frozen 1
  have f2 := hR.frozen 2
  have r0 := hR.cell 0
  have r1 := hR.cell 1
  have r2 := hR.cell 2
  have rl := hR.lt
  simp at r0 r1 r2
  have HRx := Lib.hid hR
  clear hR
  have HE7 := HE7.out
  have hlt := (HR.out _ ((HM3.out.trans' HM5.out).trans' hm6)).lt
  obtain ⟨bE, hbE⟩ : ∃ g, g = w6.heap.size := ⟨_, rfl⟩
  rw [← hbE] at HE7 hlt
  simp only [← hbE]
  clear hbE hm6
  have e0 := HE7.cell 0
  have e1 := HE7.cell 1
  have e2 := HE7.cell 2
  have ef0 := HE7.frozen 0
  have ef1 := HE7.frozen 1
  have ef2 := HE7.frozen 2
  have el := HE7.lt
  simp at e0 e1 e2
  have hb1 : (bR == bE) = false := beq_eq_false_iff_ne.2 (by omega)
  have hb2 : (bE == bR) = false := beq_eq_false_iff_ne.2 (by omega)
  have hb3 : bR ≠ bE := by omega
  have hb4 : bE ≠ bR := by omega
  clear HE7
  have hb0 := Lib.hid HW5.out.below.size
  go_wp2_with fail
  have hb9 := ((HRx.out.set_ 0 (.string ky)).set_ 1 (.int .i64 dy)).set_ 2 (.slice A6 n6 c6)
  simp only [List.setIfInBounds_toArray, List.set_cons_zero, List.set_cons_succ] at hb9
  have hm9 := ((HW7.out.setC' (i := 0) (u := .string ky) hwR).setC' (i := 1) (u := .int .i64 dy) hwR).setC' (i := 2) (u := .slice A6 n6 c6) hwR
  have ho9 := own_setT (i := 2) (u := .slice A6 n6 c6) (own_setT (i := 1) (u := .int .i64 dy) (own_setT (i := 0) (u := .string ky) HO7.out HRx.out (by decide)) (HRx.out.set_ 0 (.string ky)) (by decide)) ((HRx.out.set_ 0 (.string ky)).set_ 1 (.int .i64 dy)) (by decide)
  have ho10 := own_base ho9 (show w.heap.size ≤ w5.heap.size from hb0.out)
  have q0 := hb9.cell 0
  have q1 := hb9.cell 1
  have q2 := hb9.cell 2
  simp at q0 q1 q2
  refine bodyPost_ret (v := .tuple #[.agg #[.string ky, .int .i64 dy, .slice A6 n6 c6], .int .i64 ((a : Int) + 1), .int .i64 0]) (by simp [results, Tryz.results53, go_sem, q0, q1, q2]; try rfl) rfl ?_
  have hl9 := own_lqn ho10 HL7.out
  exact ⟨A6, n6, c6, rfl, ⟨hl9, ho10⟩, hm9⟩

/-- log.Read, whatever it reads -/
theorem read_any (s : ByteArray) (w : World) (hs : s.size ≤ maxLen) (hL : (rdL s).size ≤ 2000000) (ht : Tb w) :
    Calls Tryz.prog 53 #[.string s] w (fun e w' => (rdc s = 0 ∧ enc (rdE s) = 0 ∧ textT (rdE s) = ub (s.extract 0 ((rdAt s).toNat + 1)) ∧ 0 ≤ rdAt s ∧ ReadYes w (rdE s) (rdAt s + 1) e w') ∨ (rdc s ≠ 0 ∧ ReadNo w (rdc s) e w')) := by
  by_cases h : rdAt s < 0
  · have e : rdc s = 8 := by unfold rdc; rw [if_pos h]
    rw [e]
    exact (read_no8 s w h).mono fun e w' hh => .inr ⟨by decide, hh⟩
  by_cases h2 : rdK s < 0
  · have e : rdc s = 3 := by unfold rdc; rw [if_neg h, if_pos h2]
    rw [e]
    exact (read_no3a s w hs hL h h2).mono fun e w' hh => .inr ⟨by decide, hh⟩
  by_cases h3 : rdOk (ub (rdN s))
  · by_cases h4 : atoiV (ub (rdN s)) = cks (ub (rdP s))
    · by_cases h5 : enc (rdE s) = 0
      · by_cases h6 : textT (rdE s) = ub (s.extract 0 ((rdAt s).toNat + 1))
        · have e : rdc s = 0 := by
            unfold rdc
            rw [if_neg h, if_neg h2, if_neg (fun hn => hn h3), if_neg (fun hn => hn h4), if_neg]
            rintro (hn | hn)
            · exact hn h5
            · exact hn h6
          exact (read_ok s w hs hL ht h h2 h3 h4 h5 h6).mono fun e' w' hh => .inl ⟨e, h5, h6, by omega, hh⟩
        · have e : rdc s = 3 := by unfold rdc; rw [if_neg h, if_neg h2, if_neg (fun hn => hn h3), if_neg (fun hn => hn h4), if_pos (.inr h6)]
          rw [e]
          exact (read_no3d s w hs hL ht h h2 h3 h4 h5 h6).mono fun e w' hh => .inr ⟨by decide, hh⟩
      · have e : rdc s = 3 := by unfold rdc; rw [if_neg h, if_neg h2, if_neg (fun hn => hn h3), if_neg (fun hn => hn h4), if_pos (.inl h5)]
        rw [e]
        exact (read_no3c s w hs hL ht h h2 h3 h4 h5).mono fun e w' hh => .inr ⟨by decide, hh⟩
    · have e : rdc s = 7 := by unfold rdc; rw [if_neg h, if_neg h2, if_neg (fun hn => hn h3), if_pos h4]
      rw [e]
      exact (read_no7 s w hs hL ht h h2 h3 h4).mono fun e w' hh => .inr ⟨by decide, hh⟩
  · have e : rdc s = 3 := by unfold rdc; rw [if_neg h, if_neg h2, if_pos h3]
    rw [e]
    exact (read_no3b s w hs hL ht h h2 h3).mono fun e w' hh => .inr ⟨by decide, hh⟩

end Go.Proofs.YtohpibjjlfpaaaaGreatDoor

/- log.Write of any entry; talkeep.logBegun. -/
namespace Go.Proofs.YtohpibjjlfpaaaaGreatDoor
open Go Go.ChangeShapes Go.WideShapes Go.ChangeAt Go.RowKit Go.PlainAid
set_option linter.unusedVariables false
set_option maxRecDepth 100000

/-- what log.Write gives, whatever the entry -/
def wrT (x : En) : ByteArray := if enc x = 0 then textB x else { data := #[] }
theorem wrT_ok {x : En} (h : enc x = 0) : wrT x = textB x := if_pos h
theorem wrT_no {x : En} (h : enc x ≠ 0) : wrT x = { data := #[] } := if_neg h
theorem lwrite_any (x : En) (A : Option Addr) (n c : Nat) (w : World) (hx : Lq w A n c x.ls) (hks : x.key.size ≤ maxLen) (ht : Tb w) :
    Calls Tryz.prog 8 #[.agg #[.string x.key, .int .i64 x.day, .slice A n c]] w fun e w' => e = .returned (.tuple #[.string (wrT x), .int .i64 (enc x)]) ∧ Mor w w' := by
  by_cases h : enc x = 0
  · rw [wrT_ok h, h]; exact lwrite_ok x A n c w hx hks ht h
  · rw [wrT_no h]; exact lwrite_no x A n c w hx hks h
theorem textT_le {x : En} (h : enc x = 0) : (textT x).length ≤ 340 ∧ 2 ≤ (textT x).length := by
  have h1 := text_len (enOk_of h)
  have h2 := itoa_cks_len (plainT x)
  have e : (textT x).length = (plainT x).length + (Lib.itoa (cks (plainT x))).length + 3 := by unfold textT sumT; simp; omega
  omega
end Go.Proofs.YtohpibjjlfpaaaaGreatDoor
