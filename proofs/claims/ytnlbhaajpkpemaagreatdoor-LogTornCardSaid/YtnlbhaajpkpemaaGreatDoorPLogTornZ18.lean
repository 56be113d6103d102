/- The walk of talkeep.text. -/
import Derived.Test.YtnlbhaajpkpemaaGreatDoorPLogTornZ1
import Derived.Test.YtnlbhaajpkpemaaGreatDoorPLogTornZ2
import Derived.Test.YtnlbhaajpkpemaaGreatDoorPLogTornZ3
import Derived.Test.YtnlbhaajpkpemaaGreatDoorPLogTornZ4
import Derived.Test.YtnlbhaajpkpemaaGreatDoorPLogTornZ5
import Derived.Test.YtnlbhaajpkpemaaGreatDoorPLogTornZ6
import Derived.Test.YtnlbhaajpkpemaaGreatDoorPLogTornZ7
import Derived.Test.YtnlbhaajpkpemaaGreatDoorPLogTornZ8
import Derived.Test.YtnlbhaajpkpemaaGreatDoorPLogTornZ9
import Derived.Test.YtnlbhaajpkpemaaGreatDoorPLogTornZ10
import Derived.Test.YtnlbhaajpkpemaaGreatDoorPLogTornZ11
import Derived.Test.YtnlbhaajpkpemaaGreatDoorPLogTornZ12
import Derived.Test.YtnlbhaajpkpemaaGreatDoorPLogTornZ13
import Derived.Test.YtnlbhaajpkpemaaGreatDoorPLogTornZ14
import Derived.Test.YtnlbhaajpkpemaaGreatDoorPLogTornZ15
import Derived.Test.YtnlbhaajpkpemaaGreatDoorPLogTornZ16
import Derived.Test.YtnlbhaajpkpemaaGreatDoorPLogTornZ17
import Derived.Test.YtnlbhaajpkpemaaGreatDoorRows
import Derived.BigQuiet
import Derived.DataElems
import Derived.Deep.DeepCutAuto
import Derived.Deep.LoopGhost
import Derived.Deep.QuietTactic
import Derived.Deep.RegionHeld3
import Derived.Deep.RegionLaw
import Derived.Deep.RegionWith
import Derived.Deep.SlicePairs
import Derived.Deep.Slices
import Derived.Deep.Strs
import Derived.Handy
import Derived.Laws.AppendOwn
import Derived.Laws.Cover1
import Derived.Lib.AtoiAll
import Derived.Lib.AtoiTie
import Derived.Lib.Bytealg
import Derived.Lib.CutLaws
import Derived.Lib.Hide
import Derived.Lib.ItoaLen
import Derived.Lib.ItoaNum
import Derived.Lib.LastIndexLaws
import Derived.Lib.SliceRun
import Derived.Lib.SplitLaws
import Derived.Lib.Walk
import Derived.OpenShut
import Derived.Outline
import Derived.OwnWalk
import Derived.PlainAid
import Derived.ProofKit
import Derived.RegionTactic
import Derived.Shelf.Abstract
import Derived.Shelf.LaysC
import Derived.Shelf.LaysM
import Derived.Shelf.Small.Strs
import Derived.Shelf.Strconv.Atoi
import Derived.Shelf.Strconv.AtoiAll
import Derived.Shelf.Strconv.AtoiErrFast
import Derived.Shelf.Strconv.AtoiFail
import Derived.Shelf.Strconv.AtoiInnerAll
import Derived.Shelf.Strconv.AtoiLong
import Derived.Shelf.Strconv.Clone
import Derived.Shelf.Strconv.ErrVarAll
import Derived.Shelf.Strconv.Itoa0
import Derived.Shelf.Strconv.Itoa1
import Derived.Shelf.Strconv.Itoa2
import Derived.Shelf.Strconv.Itoa3
import Derived.Shelf.Strconv.Lower
import Derived.Shelf.Strconv.ParseInt10
import Derived.Shelf.Strconv.ParseIntEmpty
import Derived.Shelf.Strconv.ParseUint10
import Derived.Shelf.Strconv.ParseUint10Any
import Derived.Shelf.Strconv.ParseUint10Empty
import Derived.Shelf.Strconv.RangeError
import Derived.Shelf.Strconv.SyntaxError
import Derived.Shelf.Strconv.ToError
import Derived.Shelf.Strconv.ToErrorRange
import Derived.Shelf.Strings.Builder1
import Derived.Shelf.Strings.BuilderF
import Derived.Shelf.Strings.BuilderK
import Derived.Shelf.Strings.Count
import Derived.Shelf.Strings.Cut
import Derived.Shelf.Strings.Explode
import Derived.Shelf.Strings.LastIndex
import Derived.Shelf.Strings.LastIndexAll
import Derived.Shelf.Strings.RuneCount
import Derived.Shelf.Strings.Search1
import Derived.Shelf.Strings.Search2
import Derived.Shelf.Strings.Search3
import Derived.Shelf.Strings.Shaped
import Derived.Shelf.Strings.Split
import Derived.Shelf.Strings.SplitShaped
import Derived.Shelf.Unicode.Decode
import Derived.Shelf.Unicode.DecodeAny
import Derived.Shelf.Unicode.DecodeSlow
import Derived.Shelf.Utf8.RuneCount
import Derived.Sort.Walk0
import Derived.WalkKit
import Derived.WalkSpells
namespace Go.Proofs.YtnlbhaajpkpemaaGreatDoor
open Go Go.ChangeShapes Go.WideShapes Go.ChangeAt Go.RowKit Go.PlainAid
set_option linter.unusedVariables false
set_option maxRecDepth 100000

/-- the first entries of a slice -/
theorem Es.take {w : World} {X : Option Addr} {es : List En} (h : Es w X es) (j : Nat) : Es w X (es.take j) := by
  rcases h with h | ⟨x, e, hb, hc⟩
  · exact .inl (by rw [h, List.take_nil])
  · refine .inr ⟨x, e, hb, fun i hi => ?_⟩
    rw [List.length_take] at hi
    have := hc i (by omega)
    rw [ne_eq _ _ (by rw [List.length_take]; omega), List.getElem_take]
    rw [ne_eq _ _ (by omega)] at this
    exact this
/-- the text of entries as a string -/
def textsB (d : List En) : ByteArray := ⟨(texts d).toArray⟩
theorem textsB_ub (d : List En) : ub (textsB d) = texts d := by simp [textsB, ub]
theorem textsB_sz (d : List En) : (textsB d).size = (texts d).length := by rw [← ub_len, textsB_ub]
theorem textsB_take (d : List En) (i : Nat) (h : i < d.length) : textsB (d.take i) ++ textB (ne d i) = textsB (d.take (i + 1)) := by
  apply ub_inj
  rw [ub_app, textsB_ub, textsB_ub, textB_ub, texts_take d i h]

set_option maxRecDepth 100000 in
set_option maxHeartbeats 1600000 in
theorem text_any (E : Option Addr) (p q : Nat) (es : List En) (w : World) (he : Es w E es) (hl : es.length = p) (hpq : p ≤ q) (hq : q ≤ maxLen) (hp : p ≤ 100) (hk : ∀ x ∈ es, enc x = 0) (ht : Tb w) :
    Calls Tryz.prog 10 #[.slice E p q] w fun e w' => e = .returned (.tuple #[.string (textsB es), .bool true]) ∧ Mor w w' := by
  unfold maxLen at hq
  have HE := Lib.hid (fun w' (h : Mor w w') => he.mor h)
  have HEl := Lib.hid hl
  have HT := Lib.hid (fun w' (h : Mor w w') => ht.mor h)
  have HK := Lib.hid (fun i (hi : i < p) => show enc (ne es i) = 0 from by
    have hi2 : i < es.length := by omega
    rw [ne_eq _ _ hi2]; exact hk _ (List.getElem_mem hi2))
  have HZ := Lib.hid (fun i (hi : i ≤ p) => show (textsB (es.take i)).size ≤ 34000 from by
    rw [textsB_sz]
    have := texts_le (d := es.take i) (fun x hx => (textT_le (hk x (List.mem_of_mem_take hx))).1)
    have h2 : (es.take i).length ≤ 100 := by rw [List.length_take]; omega
    omega)
  have HF := Lib.hid (show es.take p = es by rw [← hl]; exact List.take_length)
  clear he hl hk ht
  go_enter Tryz.func10, Tryz.ntmps10
  go_wp2_with fail
  go_loopw [4, 11] (fun v i wr => ∃ j : Nat, j ≤ p ∧ i = .int .i64 j ∧ v = .string (textsB (es.take j)) ∧ Hid (Mor w wr)) (fun _ i _ => p - (intOf i).toNat)
  case atStart => exact ⟨0, Nat.zero_le _, rfl, by rw [List.take_zero]; rfl, Lib.hid (Mor.refl _)⟩
  case round =>
    obtain ⟨j, hj, rfl, rfl, HR⟩ := hrel
    by_cases hlt : j < p
    · have hji : (j : Int) < (p : Int) := by omega
      have hj0 : (0 : Int) ≤ (j : Int) := by omega
      have hjl : j < es.length := by rw [HEl.out]; omega
      have hjq : (j : Int) < (q : Int) := by omega
      obtain ⟨x, A2, n2, c2', hE, hxb, hks, d0, d1, d2, hlq⟩ := (HE.out _ HR.out).at_ j hjl
      subst hE
      have hen := HK.out j hlt
      have HTk := Lib.hid (textsB_take es j hjl)
      have z1 := HZ.out j hj
      have z2 := (textT_le hen).1
      rw [← textB_sz] at z2
      have HTb := Lib.hid (HT.out _ HR.out)
      have HWr := Lib.hid (fun w' (h : Mor wr w') => lwrite_ok (ne es j) A2 n2 c2' w' (hlq.mor h) hks (HTb.out.mor h) hen)
      generalize textB (ne es j) = tb at *
      generalize textsB (es.take j) = ts at *
      generalize (ne es j).key = ky at *
      generalize (ne es j).day = dy at *
      have hsum : ts.size + tb.size ≤ 40000 := by omega
      clear hlq hen
      go_wp2_with (go_at_call 17; (with_reducible refine (HWr.out _ (by repeat (first | exact Mor.refl _ | apply Mor.alloc | apply Mor.more))).mono ?_); rintro e w5 ⟨rfl, bs, k, rfl⟩)
      go_roundw
      case rel => exact ⟨j + 1, by omega, by go_num, by rw [HTk.out], Lib.hid (HR.out.trans' (by repeat (first | exact Mor.refl _ | apply Mor.alloc | apply Mor.more)))⟩
      case measure => simp [intOf]; omega
    · obtain rfl : j = p := by omega
      rw [HF.out]
      go_wp2_with fail
      go_returns
      exact ⟨rfl, HR.out⟩

end Go.Proofs.YtnlbhaajpkpemaaGreatDoor
