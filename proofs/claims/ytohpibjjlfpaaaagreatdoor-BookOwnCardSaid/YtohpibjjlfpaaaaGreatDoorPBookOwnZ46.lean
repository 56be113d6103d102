/- talkeep.spoilt: all of a book is something else, and nothing besides. -/
import Derived.Test.YtohpibjjlfpaaaaGreatDoorPBookOwnZ1
import Derived.Test.YtohpibjjlfpaaaaGreatDoorPBookOwnZ2
import Derived.Test.YtohpibjjlfpaaaaGreatDoorPBookOwnZ3
import Derived.Test.YtohpibjjlfpaaaaGreatDoorPBookOwnZ4
import Derived.Test.YtohpibjjlfpaaaaGreatDoorPBookOwnZ5
import Derived.Test.YtohpibjjlfpaaaaGreatDoorPBookOwnZ6
import Derived.Test.YtohpibjjlfpaaaaGreatDoorPBookOwnZ9
import Derived.Test.YtohpibjjlfpaaaaGreatDoorPBookOwnZ10
import Derived.Test.YtohpibjjlfpaaaaGreatDoorPBookOwnZ11
import Derived.Test.YtohpibjjlfpaaaaGreatDoorPBookOwnZ12
import Derived.Test.YtohpibjjlfpaaaaGreatDoorPBookOwnZ13
import Derived.Test.YtohpibjjlfpaaaaGreatDoorPBookOwnZ15
import Derived.Test.YtohpibjjlfpaaaaGreatDoorPBookOwnZ19
import Derived.Test.YtohpibjjlfpaaaaGreatDoorPBookOwnZ20
import Derived.Test.YtohpibjjlfpaaaaGreatDoorPBookOwnZ21
import Derived.Test.YtohpibjjlfpaaaaGreatDoorPBookOwnZ35
import Derived.Test.YtohpibjjlfpaaaaGreatDoorPBookOwnZ40
import Derived.Test.YtohpibjjlfpaaaaGreatDoorPBookOwnZ41
import Derived.Test.YtohpibjjlfpaaaaGreatDoorPBookOwnZ42
import Derived.Test.YtohpibjjlfpaaaaGreatDoorPBookOwnZ43
import Derived.Test.YtohpibjjlfpaaaaGreatDoorPBookOwnZ44
import Derived.Test.YtohpibjjlfpaaaaGreatDoorPBookOwnZ45
import Derived.Test.YtohpibjjlfpaaaaGreatDoorRows
import Derived.BigQuiet
import Derived.DataElems
import Derived.Deep.AppendSrc
import Derived.Deep.DeepAppendRoom
import Derived.Deep.DeepCutAuto
import Derived.Deep.LoopGhost
import Derived.Deep.OwnRows
import Derived.Deep.QuietTactic
import Derived.Deep.RegionHeld3
import Derived.Deep.RegionLaw
import Derived.Deep.RegionWith
import Derived.Deep.SlicePairs
import Derived.Deep.Slices
import Derived.Deep.Strs
import Derived.Handy
import Derived.Laws.AppendOwn
import Derived.Laws.Cover1
import Derived.Lib.Bytealg
import Derived.Lib.Hide
import Derived.Lib.SliceRun
import Derived.Lib.Walk
import Derived.Maps.Own
import Derived.Maps.OwnSet
import Derived.Maps.Views
import Derived.OpenShut
import Derived.Outline
import Derived.OwnWalk
import Derived.PlainAid
import Derived.ProofKit
import Derived.RegionTactic
import Derived.Shelf.Abstract
import Derived.Sort.Walk0
import Derived.StringKeys
import Derived.WalkKit
import Derived.WalkSpells
namespace Go.Proofs.YtohpibjjlfpaaaaGreatDoor
open Go.ChangeShapes Go.WideShapes Go.ChangeAt Go.RowKit Go.PlainAid
set_option linter.unusedVariables false
set_option maxRecDepth 100000

/-- the slice of an entry's lines -/
def ql (q : Ev) : Value := .slice q.A q.n q.c
/-- a row of some content -/
def Shp (w : World) (B : Nat) (T : TypeId) (s : Nat) (v : Value) (n : Nat) : Prop := ∃ xs, w.ownsRow B T s v n xs
theorem Shp.spoil {w w' : World} {B B' s n n' : Nat} {T : TypeId} {v v' : Value} {xs' : List Value} (h : Shp w B T s v n) (hv : w.ownsRow B' T s v' n' xs') (hg : w.grownBy w' v'.ownBlock)
    (hs : ∀ g, v'.ownBlock = some g → ∃ ds, Blk w' g T ds ∧ ∀ cur, Blk w g T cur → ds.size = cur.size) : Shp w' B T s v n := by
  obtain ⟨xs, hl, hh | ⟨g, cap, cur, rfl, hgB, hb, h1, h2, h3, h4⟩⟩ := h
  · exact ⟨xs, hl, .inl hh⟩
  · by_cases e : v'.ownBlock = some g
    · obtain ⟨ds, hd, hz⟩ := hs g e
      have hz2 := hz cur hb
      have hns : n * s ≤ cap * s := Nat.mul_le_mul_right s h1
      exact ⟨ds.toList.take (n * s), by rw [List.length_take, Array.length_toList, hz2, h3]; omega, .inr ⟨g, cap, ds, rfl, hgB, hd, h1, h2, by rw [hz2, h3], rfl⟩⟩
    · exact ⟨xs, hl, .inr ⟨g, cap, cur, rfl, hgB, (hg.block g (Array.getElem?_eq_some_iff.1 hb).1 (fun e2 => e e2.symm)).trans hb, h1, h2, h3, h4⟩⟩
theorem Shp.mor {w w' : World} {B s n : Nat} {T : TypeId} {v : Value} (h : Shp w B T s v n) (hm : Mor w w') : Shp w' B T s v n := by
  obtain ⟨xs, h⟩ := h; exact ⟨xs, own_mor h hm⟩
/-- the slice of entry i's lines, read -/
theorem own_ent {w : World} {B m : Nat} {v : Value} {qs : List Ev} (h : w.ownsRow B 28 3 v m (flat ec qs)) (hq : qs.length = m) (i : Nat) (hi : i < m) :
    ∃ g k, v = .slice (some ⟨g, 0, none⟩) m k ∧ B ≤ g ∧ g < w.heap.size ∧ w.cell? ⟨g, i * 3, none⟩ = some (.string (qe qs i).key) ∧ w.cell? ⟨g, i * 3 + 1, none⟩ = some (.int .i64 (qe qs i).day) ∧ w.cell? ⟨g, i * 3 + 2, none⟩ = some (.slice (qe qs i).A (qe qs i).n (qe qs i).c) := by
  have hr := h
  obtain ⟨hlen, hh | ⟨g, cap, cur, rfl, hg, hb, h1, h2, h3, h4⟩⟩ := h
  · obtain ⟨_, rfl⟩ := hh; omega
  · refine ⟨g, cap, rfl, hg, (Array.getElem?_eq_some_iff.1 hb).1, ?_⟩
    have hi' : i < qs.length := by rw [hq]; exact hi
    obtain ⟨b', o', hA', _, hc⟩ := Rd.field 3 ec_len (Rd.own hr) i hi' (by omega)
    injection hA' with hA'
    injection hA' with e1 e2
    subst e1 e2
    have c0 := hc 0 (by omega)
    have c1 := hc 1 (by omega)
    have c2 := hc 2 (by omega)
    have eq1 : qs[i] = qe qs i := (qe_eq qs i hi').symm
    refine ⟨?_, ?_, ?_⟩
    · rw [← eq1]; simpa [ec] using c0
    · rw [← eq1]; simpa [ec] using c1
    · rw [← eq1]; simpa [ec] using c2

set_option maxRecDepth 100000 in
set_option maxHeartbeats 1600000 in
theorem spoilt_any {P : Nat → Prop} {B : Nat} (A : Option Addr) (n c : Nat) (X : Option Addr) (m k : Nat) (s : Int) (ac : List Value) (qs : List Ev) (w : World) (ha : w.ownsRow B 58 2 (.slice A n c) n ac) (hx : w.ownsRow B 28 3 (.slice X m k) m (flat ec qs)) (hq : qs.length = m) (hm : m ≤ maxLen)
    (hl : ∀ i, i < m → Shp w B 34 2 (ql (qe qs i)) (qe qs i).n) (pa : ∀ x, (Value.slice A n c).ownBlock = some x → P x) (px : ∀ x, (Value.slice X m k).ownBlock = some x → P x) (pl : ∀ i, i < m → ∀ x, (ql (qe qs i)).ownBlock = some x → P x) :
    Calls Tryz.prog 26 #[bv A n c X m k s] w fun e w' => e = .returned (.tuple #[]) ∧ But P w w' := by
  have HSa := Lib.hid (fun w' (h : Mor w w') => spoil_own_ac { data := #[] } 9 (own_mor ha h))
  have HX := Lib.hid hx
  have HAo := Lib.hid ha
  have HL := Lib.hid hl
  have HQ := Lib.hid hq
  have HPa := Lib.hid pa
  have HPx := Lib.hid px
  have HPl := Lib.hid pl
  have hmx : (m : Int) ≤ 9223372036854775807 := by unfold maxLen at hm; omega
  clear ha hx hl pa px pl hq hm
  go_enter Tryz.func26, Tryz.ntmps26
  go_wp2_with fail
  refine (HSa.out _ ((Mor.refl w).alloc)).mono ?_
  rintro e w1 ⟨rfl, hg⟩
  have HM0 := Lib.hid ((Mor.refl w).alloc (o := .cells #[.slice A n c, .slice X m k, .int .i64 s] 25))
  have ha0 := own_mor HAo.out HM0.out
  have hbP := Bk.growT (Bk.new w 25 #[.slice A n c, .slice X m k, .int .i64 s]) ha0 hg (by decide)
  have HX1 := Lib.hid (own_grows (own_mor HX.out HM0.out) ha0 hg (by decide))
  have HL1 := Lib.hid (fun i (hi : i < m) => show Shp w1 B 34 2 (ql (qe qs i)) (qe qs i).n from by
    obtain ⟨xs, h⟩ := HL.out i hi
    exact ⟨xs, own_grows (own_mor h HM0.out) ha0 hg (by decide)⟩)
  have HB1 := Lib.hid (show But P w w1 from (But.of_mor HM0.out).grown hg (fun b hb _ => HPa.out b hb))
  obtain ⟨bP, hbp⟩ : ∃ g, g = w.heap.size := ⟨_, rfl⟩
  rw [← hbp] at hbP ⊢
  have HBP := Lib.hid hbP
  have p1 := hbP.cell 1
  have pl := hbP.lt
  simp at p1
  clear hg ha0 hbP hbp HSa
  go_wp2_with fail
  go_loopw [11] (fun i wr => ∃ r : Nat, r ≤ m ∧ i = .int .i64 r ∧ Hid (But P w wr) ∧ Hid (Bk wr bP 25 #[.slice A n c, .slice X m k, .int .i64 s]) ∧ Hid (wr.ownsRow B 28 3 (.slice X m k) m (flat ec qs)) ∧ Hid (∀ i, i < m → Shp wr B 34 2 (ql (qe qs i)) (qe qs i).n)) (fun i _ => m - (intOf i).toNat)
  case atStart => exact ⟨0, Nat.zero_le _, rfl, HB1, HBP, HX1, HL1⟩
  case round =>
    clear p1 pl
    obtain ⟨r, hr, rfl, HBr, HPr, HXr, HLr⟩ := hrel
    by_cases hlt : r < m
    · have hki : (r : Int) < (m : Int) := by omega
      have hk0 : (0 : Int) ≤ (r : Int) := by omega
      obtain ⟨gX, kX, hX, hgB, hgl, f0, f1, f2⟩ := own_ent HXr.out HQ.out r hlt
      injection hX with hX1 _ hX3
      subst hX1 hX3
      obtain ⟨xs, hln⟩ := HLr.out r hlt
      have HPq := Lib.hid (HPl.out r hlt)
      unfold ql at hln HPq
      have HLn := Lib.hid hln
      have HSp := Lib.hid (fun w' (h : Mor wr w') => spoilS_own_ln { data := #[] } 9 (own_mor hln h))
      have HNx := Lib.hid (fun w' w'' (h : Mor wr w') (hg : w'.grownBy w'' (Value.slice (qe qs r).A (qe qs r).n (qe qs r).c).ownBlock) (hs : ∀ g, (Value.slice (qe qs r).A (qe qs r).n (qe qs r).c).ownBlock = some g → ∃ ds, Blk w'' g 34 ds ∧ ∀ cur, Blk w' g 34 cur → ds.size = cur.size) =>
        show (But P w w'' ∧ Bk w'' bP 25 #[.slice A n c, .slice (some ⟨gX, 0, none⟩) m k, .int .i64 s] ∧ w''.ownsRow B 28 3 (.slice (some ⟨gX, 0, none⟩) m k) m (flat ec qs) ∧ ∀ i, i < m → Shp w'' B 34 2 (ql (qe qs i)) (qe qs i).n) from
          ⟨(HBr.out.mor h).grown hg (fun b hb _ => HPq.out b hb), (HPr.out.mor h).growT (own_mor HLn.out h) hg (by decide), own_grows (own_mor HXr.out h) (own_mor HLn.out h) hg (by decide), fun i hi => ((HLr.out i hi).mor h).spoil (own_mor HLn.out h) hg hs⟩)
      generalize (qe qs r).A = qA at *
      generalize (qe qs r).n = qn at *
      generalize (qe qs r).c = qc at *
      generalize (qe qs r).key = qk at *
      generalize (qe qs r).day = qd at *
      clear hln hgB
      go_wp2_with fail
      refine (HSp.out _ (by repeat (first | exact Mor.refl _ | apply Mor.alloc | apply Mor.more | apply Mor.drewN | apply Mor.drew))).mono ?_
      rintro e w5 ⟨rfl, hg, hs⟩
      have HN := Lib.hid (HNx.out _ w5 (by repeat (first | exact Mor.refl _ | apply Mor.alloc | apply Mor.more | apply Mor.drewN | apply Mor.drew)) hg hs)
      clear hg hs f0 f1 f2 hgl
      go_wp2_with fail
      go_roundw
      case rel => exact ⟨r + 1, by omega, by go_num, Lib.hid HN.out.1, Lib.hid HN.out.2.1, Lib.hid HN.out.2.2.1, Lib.hid HN.out.2.2.2⟩
      case measure => simp [intOf]; omega
    · obtain rfl : r = m := by omega
      have p1 := HPr.out.cell 1
      have pl := HPr.out.lt
      simp at p1
      go_wp2_with fail
      refine (spoil_own_en { data := #[115, 112, 111, 105, 108, 116] } 0 HXr.out).mono ?_
      rintro e w5 ⟨rfl, hg⟩
      have HN := Lib.hid (HBr.out.grown hg (fun b hb _ => HPx.out b hb))
      clear hg p1 pl
      go_wp2_with fail
      go_returns
      exact ⟨rfl, HN.out⟩

end Go.Proofs.YtohpibjjlfpaaaaGreatDoor
