/- The walk of taltop.TopCrash. -/
import Derived.Test.YtnlbhaajpkpemaaGreatDoorPTopCrashZ1
import Derived.Test.YtnlbhaajpkpemaaGreatDoorPTopCrashZ2
import Derived.Test.YtnlbhaajpkpemaaGreatDoorPTopCrashZ3
import Derived.Test.YtnlbhaajpkpemaaGreatDoorPTopCrashZ4
import Derived.Test.YtnlbhaajpkpemaaGreatDoorPTopCrashZ5
import Derived.Test.YtnlbhaajpkpemaaGreatDoorPTopCrashZ6
import Derived.Test.YtnlbhaajpkpemaaGreatDoorPTopCrashZ7
import Derived.Test.YtnlbhaajpkpemaaGreatDoorPTopCrashZ8
import Derived.Test.YtnlbhaajpkpemaaGreatDoorPTopCrashZ9
import Derived.Test.YtnlbhaajpkpemaaGreatDoorPTopCrashZ10
import Derived.Test.YtnlbhaajpkpemaaGreatDoorPTopCrashZ11
import Derived.Test.YtnlbhaajpkpemaaGreatDoorPTopCrashZ12
import Derived.Test.YtnlbhaajpkpemaaGreatDoorPTopCrashZ13
import Derived.Test.YtnlbhaajpkpemaaGreatDoorPTopCrashZ14
import Derived.Test.YtnlbhaajpkpemaaGreatDoorPTopCrashZ15
import Derived.Test.YtnlbhaajpkpemaaGreatDoorPTopCrashZ16
import Derived.Test.YtnlbhaajpkpemaaGreatDoorPTopCrashZ17
import Derived.Test.YtnlbhaajpkpemaaGreatDoorPTopCrashZ18
import Derived.Test.YtnlbhaajpkpemaaGreatDoorPTopCrashZ19
import Derived.Test.YtnlbhaajpkpemaaGreatDoorPTopCrashZ20
import Derived.Test.YtnlbhaajpkpemaaGreatDoorPTopCrashZ21
import Derived.Test.YtnlbhaajpkpemaaGreatDoorPTopCrashZ22
import Derived.Test.YtnlbhaajpkpemaaGreatDoorPTopCrashZ23
import Derived.Test.YtnlbhaajpkpemaaGreatDoorPTopCrashZ24
import Derived.Test.YtnlbhaajpkpemaaGreatDoorPTopCrashZ25
import Derived.Test.YtnlbhaajpkpemaaGreatDoorPTopCrashZ26
import Derived.Test.YtnlbhaajpkpemaaGreatDoorPTopCrashZ27
import Derived.Test.YtnlbhaajpkpemaaGreatDoorPTopCrashZ28
import Derived.Test.YtnlbhaajpkpemaaGreatDoorPTopCrashZ29
import Derived.Test.YtnlbhaajpkpemaaGreatDoorPTopCrashZ30
import Derived.Test.YtnlbhaajpkpemaaGreatDoorPTopCrashZ31
import Derived.Test.YtnlbhaajpkpemaaGreatDoorPTopCrashZ32
import Derived.Test.YtnlbhaajpkpemaaGreatDoorPTopCrashZ33
import Derived.Test.YtnlbhaajpkpemaaGreatDoorPTopCrashZ34
import Derived.Test.YtnlbhaajpkpemaaGreatDoorPTopCrashZ35
import Derived.Test.YtnlbhaajpkpemaaGreatDoorPTopCrashZ36
import Derived.Test.YtnlbhaajpkpemaaGreatDoorPTopCrashZ37
import Derived.Test.YtnlbhaajpkpemaaGreatDoorRows
import Derived.BigQuiet
import Derived.BigRegion
import Derived.Carry
import Derived.DataElems
import Derived.Deep.DeepCutAuto
import Derived.Deep.LoopGhost
import Derived.Deep.OwnRows
import Derived.Deep.QuietTactic
import Derived.Deep.RegionHeld3
import Derived.Deep.RegionLaw
import Derived.Deep.RegionWith
import Derived.Deep.SlicePairs
import Derived.Deep.Slices
import Derived.Deep.Strs
import Derived.Handy
import Derived.IntWalk
import Derived.Laws.AppendOwn
import Derived.Laws.BytesArg
import Derived.Laws.CopyOwn
import Derived.Laws.CopyRow
import Derived.Laws.Cover1
import Derived.Laws.Externs
import Derived.Laws.NewBlocks
import Derived.Laws.OwnMore
import Derived.Laws.StandIn
import Derived.Lib.AppendZerosOnto
import Derived.Lib.AtoiAll
import Derived.Lib.AtoiTie
import Derived.Lib.Bytealg
import Derived.Lib.CutLaws
import Derived.Lib.Hide
import Derived.Lib.ItoaLen
import Derived.Lib.ItoaNum
import Derived.Lib.LaidTab
import Derived.Lib.LastIndexLaws
import Derived.Lib.Overlaps
import Derived.Lib.SliceRun
import Derived.Lib.SplitLaws
import Derived.Lib.Walk
import Derived.Maps.Own
import Derived.Maps.OwnSet
import Derived.Maps.Views
import Derived.OpenShut
import Derived.Outline
import Derived.OwnWalk
import Derived.PlainAid
import Derived.ProofKit
import Derived.RegionTactic
import Derived.Shelf.Abstract
import Derived.Shelf.LaysC
import Derived.Shelf.LaysM
import Derived.Shelf.RegionOpenPlain
import Derived.Shelf.Small.Strs
import Derived.Shelf.Strconv.Atoi
import Derived.Shelf.Strconv.AtoiAll
import Derived.Shelf.Strconv.AtoiErrFast
import Derived.Shelf.Strconv.AtoiFail
import Derived.Shelf.Strconv.AtoiInnerAll
import Derived.Shelf.Strconv.AtoiLong
import Derived.Shelf.Strconv.Clone
import Derived.Shelf.Strconv.ErrVarAll
import Derived.Shelf.Strconv.Itoa0
import Derived.Shelf.Strconv.Itoa1
import Derived.Shelf.Strconv.Itoa2
import Derived.Shelf.Strconv.Itoa3
import Derived.Shelf.Strconv.Lower
import Derived.Shelf.Strconv.ParseInt10
import Derived.Shelf.Strconv.ParseIntEmpty
import Derived.Shelf.Strconv.ParseUint10
import Derived.Shelf.Strconv.ParseUint10Any
import Derived.Shelf.Strconv.ParseUint10Empty
import Derived.Shelf.Strconv.RangeError
import Derived.Shelf.Strconv.SyntaxError
import Derived.Shelf.Strconv.ToError
import Derived.Shelf.Strconv.ToErrorRange
import Derived.Shelf.Strings.Builder1
import Derived.Shelf.Strings.BuilderF
import Derived.Shelf.Strings.BuilderK
import Derived.Shelf.Strings.Count
import Derived.Shelf.Strings.Cut
import Derived.Shelf.Strings.Explode
import Derived.Shelf.Strings.LastIndex
import Derived.Shelf.Strings.LastIndexAll
import Derived.Shelf.Strings.RuneCount
import Derived.Shelf.Strings.Search1
import Derived.Shelf.Strings.Search2
import Derived.Shelf.Strings.Search3
import Derived.Shelf.Strings.Shaped
import Derived.Shelf.Strings.Split
import Derived.Shelf.Strings.SplitShaped
import Derived.Shelf.Unicode.Decode
import Derived.Shelf.Unicode.DecodeAny
import Derived.Shelf.Unicode.DecodeSlow
import Derived.Shelf.Utf8.RuneCount
import Derived.Sort.Walk0
import Derived.StringKeys
import Derived.WalkKit
import Derived.WalkSpells
namespace Go.Proofs.YtnlbhaajpkpemaaGreatDoor.topCrash
open Go Go.ChangeShapes Go.WideShapes Go.ChangeAt Go.RowKit Go.PlainAid
set_option linter.unusedVariables false
set_option maxRecDepth 100000

/-- the book behind what was written, and behind what is run again -/
theorem crash_plain {b : Bok} {ps : List Pln} {day : Int} (h : runc b ps day = 0) (J : Nat) (hJ : J ≤ (dueP ps day).length) :
    Posts b ((dueP ps day).take J) ∧ bookc (madeb b ((dueP ps day).take J)) = 0 ∧ runc (madeb b ((dueP ps day).take J)) ps day = 0 ∧ madeb (madeb b ((dueP ps day).take J)) (dueP ps day) = madeb b (dueP ps day) := by
  obtain ⟨h1, h2, h3⟩ := runc_zero h
  have hb := (bookc_iff b).1 h1
  have hO := puc_all hb h3
  obtain ⟨b1, b2, _, _⟩ := way_all hO (Way.start hb hO) (dueP ps day) (fun e he => he) J hJ
  obtain ⟨c1, c2⟩ := way_done hO b2
  refine ⟨fun i hi => ?_, (bookc_iff _).2 b2.ok, runc_of b2.ok h2 c1, c2⟩
  have hi1 : i < J := by rw [List.length_take] at hi; omega
  have hi2 : i < (dueP ps day).length := by omega
  rw [List.take_take, show min i J = i by omega, ne_eq _ _ hi, List.getElem_take, ← ne_eq _ _ hi2]
  exact puc_at h3 hi2

set_option maxRecDepth 100000 in
set_option maxHeartbeats 6400000 in
theorem topCrash_walk (w : World) (htb : Tb w) (ht : Tab w) (A : Option Addr) (n c : Nat) (X : Option Addr) (m k0 : Nat) (b : Bok) (hb : Bq w A n c X m k0 b) (L : Option Addr) (p q : Nat) (ps : List Pln) (hl : Ps w L ps ∧ ps.length = p ∧ p ≤ q ∧ q ≤ maxLen ∧ (L = none → p = 0)) (v1 : Int) (w1 : (Lit.int .i64 v1).wf = true) (v2 : Int) (w2 : (Lit.int .i64 v2).wf = true) :
    Calls Tryz.prog 5 #[bv A n c X m k0 b.shut, .slice L p q, .int .i64 v1, .int .i64 v2] w fun e w' => e = .returned (.bool true) ∧ Below w.heap.size w w' := by
  obtain ⟨hps, hpn, hpq, hqm, -⟩ := hl
  have t0 := wi_lo v1 292194 (by omega)
  have t1 := wi_hi v1 292194 (by omega)
  have HD1 := Lib.hid (fun w => within_any v1 292194 w (by omega) (by omega))
  generalize wi v1 292194 = t at *
  have HT := Lib.hid (fun w' (h : Mor w w') => ht.mor h)
  have HTb := Lib.hid (fun w' (h : Mor w w') => htb.mor h)
  have HPs := Lib.hid (fun w' (h : Mor w w') => hps.mor h)
  have HB := Lib.hid (fun w' (h : Mor w w') => hb.mor h)
  have HSh := Lib.hid (show ∀ es, (madeb b es).shut = b.shut from fun es => (madeb_ac b es).2)
  have HAn := Lib.hid (show ∀ es, (madeb b es).ac.length = n from fun es => by rw [(madeb_ac b es).1]; exact hb.ac.length)
  generalize hsh : b.shut = sh at *
  have HB0 := Lib.hid hsh
  clear hb w1 w2 hps ht htb hsh
  go_enter Tryz.func5, Tryz.ntmps5
  go_wp2_with fail
  have hM0 := (Mor.refl w).alloc (o := .cells #[.slice A n c, .slice X m k0, .int .i64 sh] 25)
  have hP0 := Bk.new w 25 #[.slice A n c, .slice X m k0, .int .i64 sh]
  obtain ⟨bP, hbP⟩ : ∃ g, g = w.heap.size := ⟨_, rfl⟩
  rw [← hbP] at hP0 ⊢
  generalize w.alloc (.cells #[.slice A n c, .slice X m k0, .int .i64 sh] 25) = w0 at *
  clear hbP
  refine (topbegun_any _).mono ?_
  rintro e w3 ⟨rfl, hm⟩
  have hP3 := hP0.mor hm
  have HM3 := Lib.hid (hM0.trans' hm)
  have HP3 := Lib.hid (fun w' (h : Mor w3 w') => hP3.mor h)
  have p0 := hP3.cell 0
  have p1 := hP3.cell 1
  have p2 := hP3.cell 2
  have pl := hP3.lt
  simp at p0 p1 p2
  clear hM0 hP0 hm hP3
  go_wp2_with (go_at_call 13; (with_reducible refine (HD1.out _).mono ?_); rintro e w3b ⟨rfl, rfl⟩)
  by_cases hrc : runc b ps t = 0
  · have hR := run_yes A n c X m k0 b L p q ps t w3 (HB.out _ HM3.out) (HPs.out _ HM3.out) hpn hpq hqm (HT.out _ HM3.out) (by omega) (by omega) hrc
    rw [HB0.out] at hR
    refine hR.mono ?_
    clear hR
    intro e w4 h4
    obtain ⟨A4, n4, c4, X4, m4, k4, rfl, hq4, ho4, hm⟩ := postYes_bq h4
    have hn4 : n4 = n := by rw [← hq4.ac.length, HAn.out]
    subst hn4
    rw [HSh.out]
    have HQ4 := Lib.hid (fun w' (h : Mor w4 w') => hq4.mor h)
    have HM4 := Lib.hid (HM3.out.trans' hm)
    have HM34 := Lib.hid hm
    clear h4 hq4 ho4 hm p0 p1 p2 pl
    go_wp2_with fail
    have hX5 := Bk.new w4 25 #[.slice A4 n4 c4, .slice X4 m4 k4, .int .i64 sh]
    have hM45 := (Mor.refl w4).alloc (o := .cells #[.slice A4 n4 c4, .slice X4 m4 k4, .int .i64 sh] 25)
    obtain ⟨bX, hbX⟩ : ∃ g, g = w4.heap.size := ⟨_, rfl⟩
    rw [← hbX] at hX5 ⊢
    generalize w4.alloc (.cells #[.slice A4 n4 c4, .slice X4 m4 k4, .int .i64 sh] 25) = w5 at *
    clear hbX
    obtain ⟨h1, h2, h3⟩ := runc_zero hrc
    have hDu := due_any L p q ps t w5 (HPs.out _ (HM4.out.trans' hM45)) hpn hpq hqm (HT.out _ (HM4.out.trans' hM45)) (by omega) (by omega)
    rw [h2, duev_ok h2] at hDu
    refine hDu.mono ?_
    clear hDu
    rintro e w6 ⟨X6, m6, k6, qs6, rfl, hl6, ho6, hm⟩
    have HX6 := Lib.hid (fun w' (h : Mor w6 w') => (hX5.mor hm).mor h)
    have HM46 := Lib.hid (hM45.trans' hm)
    have HM6 := Lib.hid (HM4.out.trans' (hM45.trans' hm))
    clear hX5 hM45 hm
    obtain ⟨X6', k6', hsh6, hmk6, hk6, -, hEs⟩ := ho6.shape
    injection hsh6 with e1 _ e3
    subst e1 e3
    unfold maxLen at hk6
    have hpl := plc_ok h2
    have hm480 : m6 ≤ 480 := by
      have := dueP_le ps t hpl.2.1 ps.length (Nat.le_refl _)
      rw [List.take_length] at this
      omega
    have HCr := Lib.hid (fun J (hJ : J ≤ (dueP ps t).length) => crash_plain hrc J hJ)
    have HK := Lib.hid (fun i (hi : i < m6) => show enc (ne (dueP ps t) i) = 0 from by
      have hi2 : i < (dueP ps t).length := by omega
      rw [ne_eq _ _ hi2]
      exact (dueP_enc h2 (List.getElem_mem hi2)).1)
    have HRn := Lib.hid (fun A8 c8 X8 m8 k8 J (hJ : J ≤ (dueP ps t).length) w' (hq : Bq w' A8 n4 c8 X8 m8 k8 (madeb b ((dueP ps t).take J))) (h : Mor w w') => show Calls Tryz.prog 15 #[bv A8 n4 c8 X8 m8 k8 sh, .slice L p q, .int .i64 t] w' (fun e w'' => ∃ A9 c9 X9 k9, e = .returned (.tuple #[bv A9 n4 c9 X9 m4 k9 sh, .int .i64 0]) ∧ Bq w'' A9 n4 c9 X9 m4 k9 (madeb b (dueP ps t)) ∧ Mor w' w'') from by
      obtain ⟨-, -, c3, c4⟩ := crash_plain hrc J hJ
      have hR := run_yes A8 n4 c8 X8 m8 k8 _ L p q ps t w' hq (HPs.out _ h) hpn hpq hqm (HT.out _ h) (by omega) (by omega) c3
      rw [HSh.out, c4] at hR
      refine hR.mono ?_
      intro e w'' h9
      obtain ⟨A9, n9, c9, X9, m9, k9, rfl, hq9, ho9, hm9⟩ := postYes_bq h9
      have hn9 : n9 = n4 := by rw [← hq9.ac.length, HAn.out]
      have hm9' : m9 = m4 := by rw [← hq9.length, ← (HQ4.out _ (Mor.refl _)).length]
      subst hn9 hm9'
      rw [HSh.out]
      exact ⟨A9, c9, X9, k9, rfl, hq9, hm9⟩)
    generalize dueP ps t = es at *
    have HE := Lib.hid (fun w' (h : Mor w6 w') => hEs.mor h)
    have HEl := Lib.hid hl6
    have HZ := Lib.hid (fun i (hi : i ≤ m6) => show (textsB (es.take i)).size ≤ 163200 from by
      rw [textsB_sz]
      have := texts_le (d := es.take i) (fun x hx => by
        obtain ⟨j, hj, rfl⟩ := List.mem_iff_getElem.1 (List.mem_of_mem_take hx)
        have := HK.out j (by omega)
        rw [ne_eq _ _ hj] at this
        exact (textT_le this).1)
      have h2 : (es.take i).length ≤ 480 := by rw [List.length_take]; omega
      omega)
    have HF := Lib.hid (show es.take m6 = es by rw [← hl6]; exact List.take_length)
    have HC0 := Lib.hid h1
    clear hl6 ho6 hEs hpl hrc h1 h2 h3
    go_wp2_with fail
    go_loopw [13, 50] (fun v i wr => ∃ j : Nat, j ≤ m6 ∧ i = .int .i64 j ∧ v = .string (textsB (es.take j)) ∧ Hid (Mor w6 wr)) (fun _ i _ => m6 - (intOf i).toNat)
    case atStart => exact ⟨0, Nat.zero_le _, rfl, by rw [List.take_zero]; rfl, Lib.hid (Mor.refl _)⟩
    case round =>
      obtain ⟨j, hj, rfl, rfl, HR⟩ := hrel
      by_cases hlt : j < m6
      · have hji : (j : Int) < (m6 : Int) := by omega
        have hj0 : (0 : Int) ≤ (j : Int) := by omega
        have hjl : j < es.length := by rw [HEl.out]; omega
        have hjq : (j : Int) < (k6 : Int) := by omega
        obtain ⟨x, A2, n2, c2', hE, hxb, hks, d0, d1, d2, hlq⟩ := (HE.out _ HR.out).at_ j hjl
        subst hE
        have hen := HK.out j hlt
        have HTk := Lib.hid (textsB_take es j hjl)
        have z1 := HZ.out j hj
        have z2 := (textT_le hen).1
        rw [← textB_sz] at z2
        have HTw := Lib.hid (HTb.out _ (HM6.out.trans' HR.out))
        have HWr := Lib.hid (fun w' (h : Mor wr w') => lwrite_ok (ne es j) A2 n2 c2' w' (hlq.mor h) hks (HTw.out.mor h) hen)
        generalize textB (ne es j) = tb at *
        generalize textsB (es.take j) = ts at *
        generalize (ne es j).key = ky at *
        generalize (ne es j).day = dy at *
        have hsum : ts.size + tb.size ≤ 200000 := by omega
        clear hlq hen
        go_wp2_with (go_at_call 17; (with_reducible refine (HWr.out _ (by repeat (first | exact Mor.refl _ | apply Mor.alloc | apply Mor.more))).mono ?_); rintro e w5 ⟨rfl, bs, k, rfl⟩)
        go_roundw
        case rel => exact ⟨j + 1, by omega, by go_num, by rw [HTk.out], Lib.hid (HR.out.trans' (by repeat (first | exact Mor.refl _ | apply Mor.alloc | apply Mor.more)))⟩
        case measure => simp [intOf]; omega
      · obtain rfl : j = m6 := by omega
        rw [HF.out]
        obtain ⟨wL, rfl⟩ : ∃ wL, wL = wr := ⟨_, rfl⟩
        obtain ⟨S, hS⟩ : ∃ S, S = (textsB es).size := ⟨_, rfl⟩
        by_cases hbig : S ≤ 20000
        · obtain ⟨K, hK⟩ : ∃ K : Nat, wi v2 ((S : Int) + 1) = (K : Int) := ⟨(wi v2 ((S : Int) + 1)).toNat, by have := wi_lo v2 ((S : Int) + 1) (by omega); omega⟩
          have hKS : K ≤ S := by
            have h2 := wi_hi v2 ((S : Int) + 1) (by omega)
            rw [hK] at h2; omega
          have HWi := Lib.hid (fun w' => show Calls Tryz.prog 13 #[.int .i64 v2, .int .i64 ((S : Int) + 1)] w' (fun e w'' => e = .returned (.int .i64 (K : Int)) ∧ w' = w'') from by
            have h2 := within_any v2 ((S : Int) + 1) w' (by omega) (by omega)
            rw [hK] at h2
            exact h2)
          have HWj := Lib.hid (fun w' => show Calls Tryz.prog 13 #[.int .i64 v2, .int .i64 (IntKind.i64.wrap ((S : Int) + 1))] w' (fun e w'' => e = .returned (.int .i64 (K : Int)) ∧ w' = w'') from by
            rw [IntWalk.i64_in ((S : Int) + 1) (by omega)]; exact HWi.out w')
          have hencs : ∀ x ∈ es, enc x = 0 := fun x hx => by
            obtain ⟨i, hi, rfl⟩ := List.mem_iff_getElem.1 hx
            have := HK.out i (by rw [← HEl.out]; exact hi)
            rwa [ne_eq _ _ hi] at this
          obtain ⟨J, r, hJd, hcut, hrn, hJk⟩ := texts_cut es K hencs (by rw [← textsB_sz, ← hS]; exact hKS)
          obtain ⟨hpost, -, -, -⟩ := HCr.out J hJd
          have hJj : J ≤ j := by rw [← HEl.out]; exact hJd
          have HM9 := Lib.hid (HM6.out.trans' HR.out)
          have HMl := Lib.hid HR.out
          have HR1 := Lib.hid (fun w' (h : Mor wL w') => show Calls Tryz.prog 11 #[bv A n4 c X m k0 sh, .string ((textsB es).extract 0 K)] w' (fun e w'' => ∃ A9 c9 X9 m9 k9, e = .returned (.tuple #[bv A9 n4 c9 X9 m9 k9 sh, .int .i64 J, .int .i64 0]) ∧ OwnB w'' w'.heap.size (.slice A9 n4 c9) (.slice X9 m9 k9) n4 m9 (madeb b (es.take J)) ∧ Mor w' w'') from by
            have h1 := replay_ok A n4 c X m k0 b ((textsB es).extract 0 K) (es.take J) r w' (HB.out _ (HM9.out.trans' h)) HC0.out (by
              rw [← hcut, ub_ext, textsB_ub, List.drop_zero, Nat.sub_zero]) (by
              have : ((textsB es).extract 0 K).size ≤ K := by simp; omega
              omega) hrn hpost (by rw [List.length_take]; omega) (HTb.out _ (HM9.out.trans' h))
            rw [HB0.out, List.length_take, show min J es.length = J by omega] at h1
            refine h1.mono fun e w'' h9 => ?_
            obtain ⟨A9, c9, X9, m9, k9, he, ho, hm9⟩ := h9
            rw [HSh.out] at he
            exact ⟨A9, c9, X9, m9, k9, he, ho, hm9⟩)
          have hSN : (textsB es).size = S := hS.symm
          have HJd := Lib.hid hJd
          have hKI : (K : Int) ≤ (S : Int) := by omega
          have hK0 : (0 : Int) ≤ (K : Int) := by omega
          generalize textsB es = sB at *
          have hP9 := HP3.out _ (HM46.out.trans' HR.out |> fun h => HM34.out.trans' h)
          have p0 := hP9.cell 0
          have p1 := hP9.cell 1
          have p2 := hP9.cell 2
          have pl := hP9.lt
          simp at p0 p1 p2
          clear hS HR hencs hcut hrn hJk hpost hP9 hJd hK
          have HSB := Lib.hid (fun A8 c8 X8 k8 w' (hq : Bq w' A8 n4 c8 X8 m4 k8 (madeb b es)) (h : Mor w4 w') => samebook_yes A8 A4 n4 c8 c4 X8 X4 m4 k8 k4 sh (madeb b es) w' hq (HQ4.out _ h))
          go_wp2_with fail
          go_cut [10, 18, 19] (fun s10 s18 s19 wx => s19 = .int .i64 J ∧ Hid (PutY wL wx sh (madeb b (es.take J)) s10 s18))
          case first =>
            go_region_with (first
              | (go_at_call 13; (with_reducible refine (HWi.out _).mono ?_); rintro e w5b ⟨rfl, rfl⟩)
              | (go_at_call 13; (with_reducible refine (HWj.out _).mono ?_); rintro e w5b ⟨rfl, rfl⟩)
              | (go_at_call 11; (with_reducible refine (HR1.out _ (by repeat (first | exact Mor.refl _ | apply Mor.alloc | apply Mor.more | apply Mor.drewN | apply Mor.drew))).mono ?_); rintro e w5 ⟨A5, c5, X5, m5, k5, rfl, ho5, bs, dr, rfl⟩; have HO5 := Lib.hid ho5; clear ho5))
            all_goals go_simp
            all_goals (go_wp2_with fail)
            all_goals go_meet
            all_goals exact ⟨rfl, Lib.hid (by first | exact putZ_last (w := wL) HO5.out | exact putZ_first (w := wL) HO5.out)⟩
          case rest =>
            obtain ⟨rfl, hcu⟩ := hcut
            obtain ⟨bY, A5, n5, c5, X5, m5, k5, rfl, rfl, hY, ⟨B5, hO5⟩, hM5⟩ := hcu.out
            have hn5 : n5 = n4 := by rw [← (own_bq hO5).ac.length, HAn.out]
            subst hn5
            have HQ5 := Lib.hid (own_bq hO5)
            have HM5 := Lib.hid (HM9.out.trans' hM5)
            have HM45 := Lib.hid (HM46.out.trans' (HMl.out.trans' hM5))
            have HM65 := Lib.hid (HMl.out.trans' hM5)
            have hJ0 : (0 : Int) ≤ (J : Int) := by omega
            have hJc : (J : Int) ≤ (j : Int) := by omega
            have y0 := hY.cell 0
            have y1 := hY.cell 1
            have y2 := hY.cell 2
            have yl := hY.lt
            simp at y0 y1 y2
            clear hY hO5 hM5 hcu HR1 p0 p1 p2 pl
            go_wp2_with fail
            refine (HRn.out A5 c5 X5 m5 k5 J HJd.out _ HQ5.out HM5.out).mono ?_
            rintro e w7 ⟨A7, c7, X7, k7, rfl, hq7, hm7⟩
            have HQ7 := Lib.hid hq7
            have HM7 := Lib.hid (HM5.out.trans' hm7)
            have HM47 := Lib.hid (HM45.out.trans' hm7)
            have hX7 := HX6.out _ (HM65.out.trans' hm7)
            have HX7 := Lib.hid hX7
            clear hm7 hq7 y0 y1 y2 yl
            have x0 := hX7.cell 0
            have x1 := hX7.cell 1
            have x2 := hX7.cell 2
            have xl := hX7.lt
            simp at x0 x1 x2
            clear hX7
            go_wp2_with fail
            have hm78 := (Mor.refl w7).alloc (o := .cells #[.slice A7 n5 c7, .slice X7 m4 k7, .int .i64 sh] 25)
            refine (HSB.out A7 c7 X7 k7 _ (HQ7.out.mor hm78) (HM47.out.trans' hm78)).mono ?_
            rintro e w9 ⟨rfl, hm9⟩
            go_wp2_with fail
            go_ret
            exact ⟨by simp, (HM7.out.trans' (hm78.trans' hm9)).below⟩
        · have hbi : (20000 : Int) < (S : Int) := by omega
          have hSN : (textsB es).size = S := hS.symm
          generalize textsB es = sB at *
          have HM9 := Lib.hid (HM6.out.trans' HR.out)
          clear hS HR
          go_wp2_with fail
          go_ret
          exact ⟨rfl, HM9.out.below⟩
  · have hR := run_no A n c X m k0 b L p q ps t w3 (HB.out _ HM3.out) (HPs.out _ HM3.out) hpn hpq hqm (HT.out _ HM3.out) (by omega) (by omega) hrc
    rw [HB0.out] at hR
    refine hR.mono ?_
    clear hR
    rintro e w4 ⟨rfl, hm⟩
    have HM4 := Lib.hid (HM3.out.trans' hm)
    have hrb : (runc b ps t != 0) = true := by simpa using hrc
    generalize runc b ps t = r at *
    clear hm p0 p1 p2 pl hrc
    go_wp2_with fail
    have hX5 := Bk.new w4 25 #[.slice none 0 0, .slice none 0 0, .int .i64 0]
    have hM45 := (Mor.refl w4).alloc (o := .cells #[.slice none 0 0, .slice none 0 0, .int .i64 0] 25)
    obtain ⟨bX, hbX⟩ : ∃ g, g = w4.heap.size := ⟨_, rfl⟩
    rw [← hbX] at hX5 ⊢
    generalize w4.alloc (.cells #[.slice none 0 0, .slice none 0 0, .int .i64 0] 25) = w5 at *
    clear hbX
    refine (due_any L p q ps t w5 (HPs.out _ (HM4.out.trans' hM45)) hpn hpq hqm (HT.out _ (HM4.out.trans' hM45)) (by omega) (by omega)).mono ?_
    rintro e w6 ⟨X6, m6, k6, qs6, rfl, hl6, ho6, hm⟩
    have hX6 := hX5.mor hm
    have HM6 := Lib.hid (HM4.out.trans' (hM45.trans' hm))
    have x1 := hX6.cell 1
    have xl := hX6.lt
    simp at x1
    clear hX5 hM45 hm hl6 ho6 hX6
    generalize plc ps = r' at *
    go_wp2_with fail
    go_ret
    exact ⟨rfl, HM6.out.below⟩

end Go.Proofs.YtnlbhaajpkpemaaGreatDoor.topCrash
