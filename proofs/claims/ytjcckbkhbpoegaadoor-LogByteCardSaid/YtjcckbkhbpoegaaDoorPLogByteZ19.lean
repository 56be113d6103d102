/- The walk of talkeep.LogByte. -/
import Derived.Test.YtjcckbkhbpoegaaDoorPLogByteZ1
import Derived.Test.YtjcckbkhbpoegaaDoorPLogByteZ2
import Derived.Test.YtjcckbkhbpoegaaDoorPLogByteZ3
import Derived.Test.YtjcckbkhbpoegaaDoorPLogByteZ4
import Derived.Test.YtjcckbkhbpoegaaDoorPLogByteZ5
import Derived.Test.YtjcckbkhbpoegaaDoorPLogByteZ6
import Derived.Test.YtjcckbkhbpoegaaDoorPLogByteZ7
import Derived.Test.YtjcckbkhbpoegaaDoorPLogByteZ8
import Derived.Test.YtjcckbkhbpoegaaDoorPLogByteZ9
import Derived.Test.YtjcckbkhbpoegaaDoorPLogByteZ10
import Derived.Test.YtjcckbkhbpoegaaDoorPLogByteZ11
import Derived.Test.YtjcckbkhbpoegaaDoorPLogByteZ12
import Derived.Test.YtjcckbkhbpoegaaDoorPLogByteZ13
import Derived.Test.YtjcckbkhbpoegaaDoorPLogByteZ14
import Derived.Test.YtjcckbkhbpoegaaDoorPLogByteZ15
import Derived.Test.YtjcckbkhbpoegaaDoorPLogByteZ16
import Derived.Test.YtjcckbkhbpoegaaDoorPLogByteZ17
import Derived.Test.YtjcckbkhbpoegaaDoorPLogByteZ18
import Derived.Test.YtjcckbkhbpoegaaDoorRows
import Derived.BigQuiet
import Derived.DataElems
import Derived.Deep.DeepCutAuto
import Derived.Deep.LoopGhost
import Derived.Deep.QuietTactic
import Derived.Deep.RegionHeld3
import Derived.Deep.RegionLaw
import Derived.Deep.RegionWith
import Derived.Deep.SlicePairs
import Derived.Deep.Slices
import Derived.Deep.Strs
import Derived.Handy
import Derived.Laws.AppendOwn
import Derived.Laws.BytesArg
import Derived.Laws.Cover1
import Derived.Lib.AtoiAll
import Derived.Lib.AtoiTie
import Derived.Lib.Bytealg
import Derived.Lib.CutLaws
import Derived.Lib.Hide
import Derived.Lib.ItoaLen
import Derived.Lib.ItoaNum
import Derived.Lib.LastIndexLaws
import Derived.Lib.SliceRun
import Derived.Lib.SplitLaws
import Derived.Lib.Walk
import Derived.OpenShut
import Derived.Outline
import Derived.OwnWalk
import Derived.PlainAid
import Derived.ProofKit
import Derived.RegionTactic
import Derived.Shelf.Abstract
import Derived.Shelf.LaysC
import Derived.Shelf.LaysM
import Derived.Shelf.Small.Strs
import Derived.Shelf.Strconv.Atoi
import Derived.Shelf.Strconv.AtoiAll
import Derived.Shelf.Strconv.AtoiErrFast
import Derived.Shelf.Strconv.AtoiFail
import Derived.Shelf.Strconv.AtoiInnerAll
import Derived.Shelf.Strconv.AtoiLong
import Derived.Shelf.Strconv.Clone
import Derived.Shelf.Strconv.ErrVarAll
import Derived.Shelf.Strconv.Itoa0
import Derived.Shelf.Strconv.Itoa1
import Derived.Shelf.Strconv.Itoa2
import Derived.Shelf.Strconv.Itoa3
import Derived.Shelf.Strconv.Lower
import Derived.Shelf.Strconv.ParseInt10
import Derived.Shelf.Strconv.ParseIntEmpty
import Derived.Shelf.Strconv.ParseUint10
import Derived.Shelf.Strconv.ParseUint10Any
import Derived.Shelf.Strconv.ParseUint10Empty
import Derived.Shelf.Strconv.RangeError
import Derived.Shelf.Strconv.SyntaxError
import Derived.Shelf.Strconv.ToError
import Derived.Shelf.Strconv.ToErrorRange
import Derived.Shelf.Strings.Builder1
import Derived.Shelf.Strings.BuilderF
import Derived.Shelf.Strings.BuilderK
import Derived.Shelf.Strings.Count
import Derived.Shelf.Strings.Cut
import Derived.Shelf.Strings.Explode
import Derived.Shelf.Strings.LastIndex
import Derived.Shelf.Strings.LastIndexAll
import Derived.Shelf.Strings.RuneCount
import Derived.Shelf.Strings.Search1
import Derived.Shelf.Strings.Search2
import Derived.Shelf.Strings.Search3
import Derived.Shelf.Strings.Shaped
import Derived.Shelf.Strings.Split
import Derived.Shelf.Strings.SplitShaped
import Derived.Shelf.Unicode.Decode
import Derived.Shelf.Unicode.DecodeAny
import Derived.Shelf.Unicode.DecodeSlow
import Derived.Shelf.Utf8.RuneCount
import Derived.Sort.Walk0
import Derived.WalkKit
import Derived.WalkSpells
namespace Go.Proofs.YtjcckbkhbpoegaaDoor
open Go Go.ChangeShapes Go.WideShapes Go.ChangeAt Go.RowKit Go.PlainAid
set_option linter.unusedVariables false

set_option maxRecDepth 100000 in
set_option maxHeartbeats 1600000 in
theorem logByte_no (x : En) (A : Option Addr) (n c : Nat) (i k : Int) (w : World) (hx : Lq w A n c x.ls) (hkx : x.key.size ≤ maxLen) (ht : Tb w) (h : enc x ≠ 0) :
    Calls Tryd.prog 4 #[.agg #[.string x.key, .int .i64 x.day, .slice A n c], .int .i64 i, .int .u8 k] w fun e w' => e = .returned (.bool true) ∧ Mor w w' := by
  have HB := Lib.hid (fun w' (h : Mor w w') => begun_lg w' (ht.mor h))
  have HX := Lib.hid (fun w' (h : Mor w w') => lwrite_any x A n c w' (hx.mor h) hkx (ht.mor h))
  rw [wrT_no h] at HX
  have hb : (enc x != 0) = true := by simpa using h
  generalize enc x = r at *
  generalize x.key = kx at *
  generalize x.day = dx at *
  clear hx ht h
  go_enter Tryd.func4, Tryd.ntmps4
  go_wp2_with (first
    | (go_at_call 6; (with_reducible refine (HB.out _ (by repeat (first | exact Mor.refl _ | apply Mor.alloc | apply Mor.more))).mono ?_); rintro e w1 ⟨rfl, bs1, k1, rfl⟩)
    | (go_at_call 8; (with_reducible refine (HX.out _ (by repeat (first | exact Mor.refl _ | apply Mor.alloc | apply Mor.more))).mono ?_); rintro e w1 ⟨rfl, bs2, k2, rfl⟩))
  go_ret
  exact ⟨rfl, by repeat (first | exact Mor.refl _ | apply Mor.alloc | apply Mor.more)⟩

theorem set_parts (l : List UInt8) (j : Nat) (b : UInt8) (h : j < l.length) : l.set j b = l.take j ++ b :: l.drop (j + 1) := List.set_eq_take_append_cons_drop.trans (by rw [if_pos h])
theorem byte_read {x : En} (h : enc x = 0) {T : ByteArray} (hT : textB x = T) {j : Nat} (hj : j + 1 < T.size) {k : Int} (hk : 0 ≤ k ∧ k ≤ 255) (hk1 : k ≠ 10) (hk2 : k ≠ bt T j) :
    (∀ w, Tb w → Calls Tryd.prog 7 #[.string (T.extract 0 j ++ { data := #[UInt8.ofNat k.toNat] } ++ T.extract (j + 1) T.size)] w (ReadNo w 3)) ∨
    (∀ w, Tb w → Calls Tryd.prog 7 #[.string (T.extract 0 j ++ { data := #[UInt8.ofNat k.toNat] } ++ T.extract (j + 1) T.size)] w (ReadNo w 7)) := by
  generalize hs : T.extract 0 j ++ { data := #[UInt8.ofNat k.toNat] } ++ T.extract (j + 1) T.size = s
  have hz := (textT_le h).1
  have hTz : T.size = (textT x).length := by rw [← hT, textB_sz]
  have hub : ub T = textT x := by rw [← hT, textB_ub]
  have hus : ub s = (textT x).set j (UInt8.ofNat k.toNat) := by
    rw [← hs, ub_app, ub_app, ub_ext, ub_ext, hub, set_parts _ _ _ (by omega), hTz, List.take_of_length_le (l := List.drop (j + 1) (textT x)) (by rw [List.length_drop]; omega)]
    simp [ub]
  have hb : (UInt8.ofNat k.toNat).toNat = k.toNat := by simp; omega
  have hbt : bt T j = ((textT x).getD j 0).toNat := by
    unfold bt
    rw [dif_pos (by omega), List.getD_eq_getElem?_getD, ← hub, List.getElem?_eq_getElem (by rw [ub_len]; omega)]
    rfl
  have hsz : s.size = T.size := by rw [← ub_len, hus, List.length_set, hTz]
  have hr := byte_bad h (text_len (enOk_of h)) (i := j) (c := UInt8.ofNat k.toNat) (by omega) (fun e => hk1 (by have := congrArg UInt8.toNat e; rw [hb] at this; simp at this; omega)) (fun e => hk2 (by rw [hbt, ← e, hb]; omega)) hus
  have hrd := fun (w : World) (ht : Tb w) => read_any s w (by unfold maxLen; omega) (by unfold rdL; simp; omega) ht
  rcases hr with hr | hr
  · refine .inl fun w ht => (hrd w ht).mono ?_
    rintro e w' (⟨q, _⟩ | ⟨_, q⟩)
    · rw [hr] at q; cases q
    · rw [hr] at q; exact q
  · refine .inr fun w ht => (hrd w ht).mono ?_
    rintro e w' (⟨q, _⟩ | ⟨_, q⟩)
    · rw [hr] at q; cases q
    · rw [hr] at q; exact q

set_option maxRecDepth 100000 in
set_option maxHeartbeats 12800000 in
theorem logByte_yes (x : En) (A : Option Addr) (n c : Nat) (i k : Int) (hk : 0 ≤ k ∧ k ≤ 255) (w : World) (hx : Lq w A n c x.ls) (hkx : x.key.size ≤ maxLen) (ht : Tb w) (h : enc x = 0) :
    Calls Tryd.prog 4 #[.agg #[.string x.key, .int .i64 x.day, .slice A n c], .int .i64 i, .int .u8 k] w fun e w' => e = .returned (.bool true) ∧ Mor w w' := by
  have HB := Lib.hid (fun w' (h : Mor w w') => begun_lg w' (ht.mor h))
  have HX := Lib.hid (fun w' (h : Mor w w') => lwrite_any x A n c w' (hx.mor h) hkx (ht.mor h))
  rw [wrT_ok h, h] at HX
  obtain ⟨hz1, hz2⟩ := textT_le h
  rw [← textB_sz] at hz1 hz2
  generalize hTx : textB x = T at *
  generalize x.key = kx at *
  generalize x.day = dx at *
  have HWi := Lib.hid (fun w' => within_any i ((T.size : Int) - 1) w' (by omega) (by omega))
  have g1 := wi_lo i ((T.size : Int) - 1) (by omega)
  have g2 := wi_hi i ((T.size : Int) - 1) (by omega)
  obtain ⟨j, hj⟩ : ∃ j : Nat, wi i ((T.size : Int) - 1) = j := ⟨(wi i ((T.size : Int) - 1)).toNat, by omega⟩
  rw [hj] at HWi g1 g2
  have hwz : IntKind.i64.wrap ((T.size : Int) - 1) = (T.size : Int) - 1 := IntWalk.i64_in _ (by omega)
  have hwj : IntKind.i64.wrap ((j : Int) + 1) = (j : Int) + 1 := IntWalk.i64_in _ (by omega)
  have g3 : (j : Int) + 1 ≤ (T.size : Int) := by omega
  have g4 : (j : Int) < (T.size : Int) := by omega
  have g4n : j < T.size := by omega
  have g5 : (0 : Int) ≤ (j : Int) + 1 := by omega
  have g6 : (j : Int) ≤ (T.size : Int) := by omega
  have g6n : j ≤ T.size := by omega
  have g7 : decide ((T.size : Int) < 2) = false := decide_eq_false (by omega)
  have hbt := get_bt T
  have HRd := Lib.hid (fun (hk1 : k ≠ 10) (hk2 : k ≠ bt T j) => show (∀ w', Mor w w' → Calls Tryd.prog 7 #[.string (T.extract 0 j ++ { data := #[UInt8.ofNat k.toNat] } ++ T.extract (j + 1) T.size)] w' (ReadNo w' 3)) ∨ (∀ w', Mor w w' → Calls Tryd.prog 7 #[.string (T.extract 0 j ++ { data := #[UInt8.ofNat k.toNat] } ++ T.extract (j + 1) T.size)] w' (ReadNo w' 7)) from by
    have hq := byte_read (x := x) h (T := T) hTx (j := j) (by omega) hk hk1 hk2
    rcases hq with hq | hq
    · exact .inl fun w' hm => hq w' (ht.mor hm)
    · exact .inr fun w' hm => hq w' (ht.mor hm))
  clear hj hx h hTx
  by_cases kk1 : k = 10
  · have d1 : (k == 10) = true := by simpa using kk1
    go_enter Tryd.func4, Tryd.ntmps4
    go_wp2_with (first
      | (go_at_call 6; (with_reducible refine (HB.out _ (by repeat (first | exact Mor.refl _ | apply Mor.alloc | apply Mor.more))).mono ?_); rintro e w1 ⟨rfl, bs1, k1, rfl⟩)
      | (go_at_call 8; (with_reducible refine (HX.out _ (by repeat (first | exact Mor.refl _ | apply Mor.alloc | apply Mor.more))).mono ?_); rintro e w1 ⟨rfl, bs2, k2, rfl⟩)
      | (go_at_call 9; (with_reducible refine (HWi.out _).mono ?_); rintro e w1 ⟨rfl, rfl⟩))
    all_goals
      go_ret
      refine ⟨?_, by repeat (first | exact Mor.refl _ | apply Mor.alloc | apply Mor.more)⟩
      simp
  have d1 : (k == 10) = false := by simpa using kk1
  by_cases kk2 : k = bt T j
  · have d2 : (k == bt T j) = true := by simpa using kk2
    go_enter Tryd.func4, Tryd.ntmps4
    go_wp2_with (first
      | (go_at_call 6; (with_reducible refine (HB.out _ (by repeat (first | exact Mor.refl _ | apply Mor.alloc | apply Mor.more))).mono ?_); rintro e w1 ⟨rfl, bs1, k1, rfl⟩)
      | (go_at_call 8; (with_reducible refine (HX.out _ (by repeat (first | exact Mor.refl _ | apply Mor.alloc | apply Mor.more))).mono ?_); rintro e w1 ⟨rfl, bs2, k2, rfl⟩)
      | (go_at_call 9; (with_reducible refine (HWi.out _).mono ?_); rintro e w1 ⟨rfl, rfl⟩))
    all_goals
      go_ret
      refine ⟨?_, by repeat (first | exact Mor.refl _ | apply Mor.alloc | apply Mor.more)⟩
      simp
  have d2 : (k == bt T j) = false := by simpa using kk2
  have hcv : ∀ (w' : World) (b : Nat), w'.cell? ⟨b, 0, none⟩ = some (.int .u8 k) → (convert 33 9 (.slice (some ⟨b, 0, none⟩) 1 1)).run Tryd.prog w' = .ok (.string ⟨#[UInt8.ofNat k.toNat]⟩) w' := by
    intro w' b hc
    have := run_convert_bytes_arg w' 33 5 Tryd.underlying33 Tryd.underlying5 b 0 1 1 [k] rfl (fun i hi => by
      obtain rfl : i = 0 := by omega
      exact hc) 9 Tryd.underlying9
    rw [this]; rfl
  go_enter Tryd.func4, Tryd.ntmps4
  go_wp2_with (first
    | (go_at_call 6; (with_reducible refine (HB.out _ (by repeat (first | exact Mor.refl _ | apply Mor.alloc | apply Mor.more))).mono ?_); rintro e w1 ⟨rfl, bs1, k1, rfl⟩)
    | (go_at_call 8; (with_reducible refine (HX.out _ (by repeat (first | exact Mor.refl _ | apply Mor.alloc | apply Mor.more))).mono ?_); rintro e w1 ⟨rfl, bs2, k2, rfl⟩)
    | (go_at_call 9; (with_reducible refine (HWi.out _).mono ?_); rintro e w1 ⟨rfl, rfl⟩))
  have HRR := HRd.out kk1 kk2
  clear HRd
  have hl1 : (T.extract 0 j).size + 1 ≤ 1000 := by simp; omega
  have hl2 : (T.extract (j + 1) T.size).size ≤ 340 := by simp; omega
  rcases HRR with HR3 | HR3
  · go_region_with (first | (go_at_call 7; (with_reducible refine (HR3 _ (by repeat (first | exact Mor.refl _ | apply Mor.alloc | apply Mor.more | apply Mor.drewN | apply Mor.drew))).mono ?_); rintro e w1 ⟨rfl, bs3, k3, rfl⟩))
    all_goals go_simp
    all_goals
      go_wp2_with fail
      go_ret
      refine ⟨?_, by repeat (first | exact Mor.refl _ | apply Mor.alloc | apply Mor.more | apply Mor.drewN | apply Mor.drew)⟩
      simp
  · go_region_with (first | (go_at_call 7; (with_reducible refine (HR3 _ (by repeat (first | exact Mor.refl _ | apply Mor.alloc | apply Mor.more | apply Mor.drewN | apply Mor.drew))).mono ?_); rintro e w1 ⟨rfl, bs3, k3, rfl⟩))
    all_goals go_simp
    all_goals
      go_wp2_with fail
      go_ret
      refine ⟨?_, by repeat (first | exact Mor.refl _ | apply Mor.alloc | apply Mor.more | apply Mor.drewN | apply Mor.drew)⟩
      simp

theorem logByte_walk (w : World) (ht : Tb w) (x : En) (A : Option Addr) (n c : Nat) (hx : Lq w A n c x.ls) (hkx : x.key.size ≤ maxLen) (i : Int) (wi : (Lit.int .i64 i).wf = true) (k : Int) (wk : (Lit.int .u8 k).wf = true) :
    Calls Tryd.prog 4 #[.agg #[.string x.key, .int .i64 x.day, .slice A n c], .int .i64 i, .int .u8 k] w fun e w' => e = .returned (.bool true) ∧ Below w.heap.size w w' := by
  by_cases h : enc x = 0
  · exact (logByte_yes x A n c i k (by
      have e1 : IntKind.u8.min = 0 := rfl
      have e2 : IntKind.u8.max = 255 := rfl
      simp [Lit.wf, e1, e2] at wk
      omega) w hx hkx ht h).mono fun e w' ⟨a, b⟩ => ⟨a, b.below⟩
  · exact (logByte_no x A n c i k w hx hkx ht h).mono fun e w' ⟨a, b⟩ => ⟨a, b.below⟩

end Go.Proofs.YtjcckbkhbpoegaaDoor
