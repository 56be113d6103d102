/- The walk of tie.Tie. -/
import Derived.Test.YtahegjhjonodlaaDoorPItemsOwnZ1
import Derived.Test.YtahegjhjonodlaaDoorPItemsOwnZ2
import Derived.Test.YtahegjhjonodlaaDoorPItemsOwnZ3
import Derived.Test.YtahegjhjonodlaaDoorPItemsOwnZ4
import Derived.Test.YtahegjhjonodlaaDoorPItemsOwnZ5
import Derived.Test.YtahegjhjonodlaaDoorPItemsOwnZ6
import Derived.Test.YtahegjhjonodlaaDoorPItemsOwnZ7
import Derived.Test.YtahegjhjonodlaaDoorPItemsOwnZ15
import Derived.Test.YtahegjhjonodlaaDoorPItemsOwnZ19
import Derived.Test.YtahegjhjonodlaaDoorPItemsOwnZ20
import Derived.Test.YtahegjhjonodlaaDoorPItemsOwnZ21
import Derived.Test.YtahegjhjonodlaaDoorRows
import Derived.BigQuiet
import Derived.DataElems
import Derived.Deep.DeepCutAuto
import Derived.Deep.OwnRows
import Derived.Deep.QuietTactic
import Derived.Deep.RegionLaw
import Derived.Deep.RegionWith
import Derived.Deep.SlicePairs
import Derived.Handy
import Derived.Laws.Bits64b
import Derived.Laws.CopyOwn
import Derived.Lib.Hide
import Derived.OpenShut
import Derived.Outline
import Derived.OwnWalk
import Derived.ProofKit
import Derived.RegionTactic
import Derived.Shelf.Abstract
import Derived.WalkKit
namespace Go.Proofs.YtahegjhjonodlaaDoor
open Go.ChangeShapes Go.WideShapes Go.ChangeAt Go.RowKit Stb
set_option linter.unusedVariables false
set_option maxRecDepth 100000

/-- the cells of the truth values us -/
def bc (us : List Bool) : Array Value := (us.map Value.bool).toArray
theorem bc_get (us : List Bool) (i : Nat) (h : i < us.length) : (bc us)[i]? = some (.bool (us.getD i false)) := by
  simp [bc, List.getD_eq_getElem?_getD, h]
theorem bc_set (us : List Bool) (i : Nat) (v : Bool) : (bc us).setIfInBounds i (.bool v) = bc (us.set i v) := by
  simp [bc, List.map_set]
theorem bc_zero (m : Nat) : madeCells #[Value.bool false] m = bc (List.replicate m false) := by
  apply Array.ext_getElem?
  intro i
  by_cases h : i < m
  · rw [bc_get _ _ (by simpa using h)]
    simp [madeCells, h, Nat.mod_one, List.getD_eq_getElem?_getD]
  · rw [Array.getElem?_eq_none (by rw [size_madeCells]; omega), Array.getElem?_eq_none (by simp [bc]; omega)]
theorem info_bool : (Tryd.prog.info? 4).map (fun i => (i.zero, i.size, i.bytes)) = some (some (.bool false), 1, 1) := by kernel_rfl

/-- what Tie tells -/
def tiec (a b : List Pr) (w : Int) : Int := if itc a ≠ 0 then itc a else if itc b ≠ 0 then itc b else if w < 0 ∨ 292193 < w then 1 else 0
def TiePost2 (w : World) (a b : List Pr) (v : Int) (e : Ending) (w' : World) : Prop :=
  ∃ g, e = .returned (.tuple #[.slice (some ⟨g, 0, none⟩) a.length a.length, .int .i64 0]) ∧ Mor w w' ∧ Row w' g 0 (tieF a b v) ∧ w.heap.size ≤ g
def TieNo (w : World) (c : Int) (e : Ending) (w' : World) : Prop := e = .returned (.tuple #[.slice none 0 0, .int .i64 c]) ∧ Mor w w'

/-- the memory of Tie -/
structure Ft (w wr : World) (gO gU gB gA : Nat) (a b : List Pr) (s : List Int × List Bool) : Prop where
  vO : Blk wr gO 3 (ic s.1)
  vU : Blk wr gU 4 (bc s.2)
  rB : Row wr gB 0 (dord b)
  rA : Row wr gA 0 (dord a)
  below : Below w.heap.size w wr
theorem Ft.drew {w wr : World} {gO gU gB gA : Nat} {a b : List Pr} {s : List Int × List Bool} (h : Ft w wr gO gU gB gA a b s) : Ft w wr.drew gO gU gB gA a b s :=
  ⟨h.vO, h.vU, h.rB, h.rA, ⟨h.below.os, h.below.tape, h.below.output, h.below.size, h.below.block⟩⟩
theorem Ft.drewN {w wr : World} {gO gU gB gA : Nat} {a b : List Pr} {s : List Int × List Bool} (h : Ft w wr gO gU gB gA a b s) (k : Nat) : Ft w (wr.drewN k) gO gU gB gA a b s :=
  ⟨h.vO, h.vU, h.rB, h.rA, ⟨h.below.os, h.below.tape, h.below.output, h.below.size, h.below.block⟩⟩
theorem Row.oth {w : World} {b o g i : Nat} {xs : List Int} {u : Value} (h : Row w b o xs) (hne : b ≠ g) : Row (w.setCell ⟨g, i, none⟩ u) b o xs :=
  h.far (by have := h.1; rw [show (w.setCell ⟨g, i, none⟩ u).heap.size = w.heap.size from by simp [World.setCell]]; exact this) fun q hq => (set_far w _ q u (by rw [hq]; exact hne)).1
theorem Ft.step {w wr : World} {gO gU gB gA : Nat} {a b : List Pr} {s : List Int × List Bool} (h : Ft w wr gO gU gB gA a b s) (h1 : gO < gU) (h2 : gU < gB) (h3 : gB < gA) (h4 : w.heap.size ≤ gO) (i k : Nat) :
    Ft w ((wr.setCell ⟨gO, i, none⟩ (.int .i64 k)).setCell ⟨gU, k, none⟩ (.bool true)) gO gU gB gA a b (s.1.set i k, s.2.set k true) :=
  ⟨by rw [← ic_set]; exact (h.vO.set_ i _).oth (by omega), by rw [← bc_set]; exact (h.vU.oth (by omega)).set_ k _, (h.rB.oth (by omega)).oth (by omega), (h.rA.oth (by omega)).oth (by omega),
    (h.below.setCell (by exact h4) _).setCell (by show w.heap.size ≤ gU; omega) _⟩
theorem ge_at {xs : List Int} {i : Nat} (h : i < xs.length) : ge xs i = xs[i] := by
  unfold ge; rw [List.getD_eq_getElem?_getD, List.getElem?_eq_getElem h]; rfl
theorem take_succ_ge (xs : List Int) (k : Nat) (h : k < xs.length) : xs.take (k + 1) = xs.take k ++ [ge xs k] := by
  rw [List.take_succ_eq_append_getElem h, ge_at h]
theorem tieS_succ {a b : List Pr} {w : Int} {ob : List Int} {s : List Int × List Bool} {js : List Int} {j : Nat} (h : j < js.length) : tieS a b w ob s (js.take (j + 1)) = tstep a b w ob (tieS a b w ob s (js.take j)) (ge js j) := by
  have e := take_succ_ge js j h
  unfold tieS
  rw [e, List.foldl_append]; rfl
theorem tstep_none {a b : List Pr} {w : Int} {ob : List Int} {s : List Int × List Bool} {i : Int} (h : ∀ p, p < ob.length → ser a b w s.2 i (ge ob p) = false) : tstep a b w ob s i = s := by
  have e : ob.find? (ser a b w s.2 i) = none := by
    rw [List.find?_eq_none]
    intro x hx
    obtain ⟨p, hp, rfl⟩ := List.getElem_of_mem hx
    have := h p hp
    rw [ge_at hp] at this
    simp [this]
  unfold tstep; rw [e]
theorem tstep_some {a b : List Pr} {w : Int} {ob : List Int} {s : List Int × List Bool} {i : Int} {p : Nat} (hp : p < ob.length) (h : ∀ q, q < p → ser a b w s.2 i (ge ob q) = false) (h2 : ser a b w s.2 i (ge ob p) = true) :
    tstep a b w ob s i = (s.1.set i.toNat (ge ob p), s.2.set (ge ob p).toNat true) := by
  have e : ob.find? (ser a b w s.2 i) = some (ge ob p) := by
    rw [List.find?_eq_some_iff_getElem]
    refine ⟨h2, p, hp, (ge_at hp).symm, fun q hq => ?_⟩
    have := h q hq
    rw [ge_at (by omega)] at this
    simp [this]
  unfold tstep; rw [e]

theorem tstep_len {a b : List Pr} {w : Int} {ob : List Int} {s : List Int × List Bool} {i : Int} : (tstep a b w ob s i).1.length = s.1.length ∧ (tstep a b w ob s i).2.length = s.2.length := by
  unfold tstep
  split <;> simp
theorem tieS_len {a b : List Pr} {w : Int} {ob : List Int} {js : List Int} : ∀ {s : List Int × List Bool}, (tieS a b w ob s js).1.length = s.1.length ∧ (tieS a b w ob s js).2.length = s.2.length := by
  induction js with
  | nil => exact ⟨rfl, rfl⟩
  | cons i js ih =>
    intro s
    have h1 := ih (s := tstep a b w ob s i)
    have h2 := tstep_len (a := a) (b := b) (w := w) (ob := ob) (s := s) (i := i)
    exact ⟨h1.1.trans h2.1, h1.2.trans h2.2⟩
theorem dord_at {l : List Pr} {n j : Nat} (hn : l.length = n) (h : j < n) : ∃ i : Nat, i < n ∧ ge (dord l) j = (i : Int) := by
  have hl : (dord l).length = n := by rw [(dord_perm l).length_eq, idx_len, hn]
  have hm : ge (dord l) j ∈ dord l := List.mem_of_getElem? (ge_some (by omega))
  obtain ⟨i, hi, e⟩ := dord_mem.1 hm
  exact ⟨i, by omega, e⟩
theorem dord_len {l : List Pr} {n : Nat} (hn : l.length = n) : (dord l).length = n := by rw [(dord_perm l).length_eq, idx_len, hn]
theorem ser_eq {a b : List Pr} {v : Int} {us : List Bool} {i k : Nat} : ser a b v us i k = (!(us.getD k false) && (decide (py a i = py b k) && (decide (px a i - px b k ≤ v) && decide (-(px a i - px b k) ≤ v)))) := rfl
theorem tiec_zero {a b : List Pr} {v : Int} (h : tiec a b v = 0) : itc a = 0 ∧ itc b = 0 ∧ 0 ≤ v ∧ v ≤ 292193 := by
  unfold tiec at h
  split at h
  · omega
  · split at h
    · omega
    · split at h
      · omega
      · exact ⟨by omega, by omega, by omega, by omega⟩
theorem itc_zero' {xs : List Pr} (h : itc xs = 0) : xs.length ≤ 40 ∧ itOk xs xs.length = true := by
  unfold itc at h
  split at h
  · omega
  · split at h
    · exact ⟨by omega, by assumption⟩
    · omega

set_option maxRecDepth 100000 in
set_option maxHeartbeats 6400000 in
theorem tie_ok2 (A : Option Addr) (na capa : Nat) (a : List Pr) (B : Option Addr) (nb capb : Nat) (b : List Pr) (v : Int) (w : World) (hra : Pi w A a) (hrb : Pi w B b) (hna : a.length = na) (hnb : b.length = nb) (hc : tiec a b v = 0) :
    Calls Tryd.prog 24 #[.slice A na capa, .slice B nb capb, .int .i64 v] w (TiePost2 w a b v) := by
  obtain ⟨c1, c2, v1, v2⟩ := tiec_zero hc
  obtain ⟨a40, aok⟩ := itc_zero' c1
  obtain ⟨b40, bok⟩ := itc_zero' c2
  rw [hna] at a40 aok
  rw [hnb] at b40 bok
  have HWa := Lib.hid (fun k (hk : k < na) => itOk_at aok hk)
  have HWb := Lib.hid (fun k (hk : k < nb) => itOk_at bok hk)
  have HRa := Lib.hid hra
  have HRb := Lib.hid hrb
  have HNa := Lib.hid hna
  have HNb := Lib.hid hnb
  have HCa := Lib.hid (fun w (h : Pi w A a) => acheck_any A na capa a w h hna (by unfold maxLen; omega))
  have HCb := Lib.hid (fun w (h : Pi w B b) => acheck_any B nb capb b w h hnb (by unfold maxLen; omega))
  rw [c1] at HCa
  rw [c2] at HCb
  have HOa := Lib.hid (fun w (h : Pi w A a) => order_any A na capa a w h hna a40 (fun k hk => ⟨(HWa.out k hk).1, (HWa.out k hk).2.1⟩))
  have HOb := Lib.hid (fun w (h : Pi w B b) => order_any B nb capb b w h hnb b40 (fun k hk => ⟨(HWb.out k hk).1, (HWb.out k hk).2.1⟩))
  have hmk := fun w => run_make_row' (P := Tryd.prog) 109 4 (.bool false) 1 Tryd.underlying109 info_bool rfl .i64 .i64 nb (by omega) (by omega) w
  rw [bc_zero] at hmk
  clear hc c1 c2 aok bok hra hrb hna hnb
  go_enter Tryd.func24, Tryd.ntmps24
  go_wp2_with fail
  refine (HCa.out _ HRa.out).mono ?_
  rintro e w1 ⟨rfl, hm1⟩
  have HM1 := Lib.hid hm1
  clear hm1
  go_wp2_with fail
  refine (HCb.out _ (HRb.out.mor HM1.out)).mono ?_
  rintro e w2 ⟨rfl, hm2⟩
  have HM2 := Lib.hid (Mor.trans' HM1.out hm2)
  clear hm2 HM1
  go_wp2_with fail
  refine (rep_any _ _ _ na (-1) _ (by omega) (by simp [go_sem]) (by simp [go_sem])).mono ?_
  rintro e w3 ⟨gO, rfl, hg3, hm3, hb3⟩
  have HM3 := Lib.hid (Mor.trans' HM2.out.alloc hm3)
  have HG3 := Lib.hid (show w.heap.size ≤ gO by have := HM2.out.below.size; simp at hg3; omega)
  have HB3 := Lib.hid hb3
  clear hg3 hm3 hb3 HM2
  go_wp2_with fail
  obtain ⟨gU, hU⟩ : ∃ g, g = w3.heap.size := ⟨_, rfl⟩
  obtain ⟨w4, hw4⟩ : ∃ w4, w4 = w3.alloc (.cells (bc (List.replicate nb false)) 4) := ⟨_, rfl⟩
  have HBU := Lib.hid (show Blk w4 gU 4 (bc (List.replicate nb false)) by rw [hw4]; exact Blk.at_new _ _ _ hU)
  have HBO := Lib.hid (show Blk w4 gO 3 (ic (List.replicate na (-1))) by rw [hw4]; exact HB3.out.alloc _)
  have HM4 := Lib.hid (show Mor w w4 by rw [hw4]; exact HM3.out.alloc)
  have h1 : gO < gU := by rw [hU]; exact HB3.out.lt
  have h1' : gU < w4.heap.size := HBU.out.lt
  rw [← hU, ← hw4]
  clear hU hw4 HM3 HB3 hmk
  refine (HOb.out w4 (HRb.out.mor HM4.out)).mono ?_
  rw [show OrdPost w4 b = fun e w' => OrdPost w4 b e w' from rfl]
  rintro e w5 ⟨gB, rfl, hg5, hm5, hr5⟩
  rw [HNb.out]
  have h2 : gU < gB := by omega
  have h2' : gB < w5.heap.size := hr5.1
  have HM5 := Lib.hid (Mor.trans' HM4.out hm5)
  have HBO5 := Lib.hid (HBO.out.below hm5.below (by omega))
  have HBU5 := Lib.hid (HBU.out.below hm5.below (by omega))
  have HRB5 := Lib.hid hr5
  clear hr5 hm5 hg5 HBO HBU HM4 h1'
  go_wp2_with fail
  refine (HOa.out w5 (HRa.out.mor HM5.out)).mono ?_
  rintro e w6 ⟨gA, rfl, hg6, hm6, hr6⟩
  rw [HNa.out]
  have h3 : gB < gA := by omega
  have HFt := Lib.hid (show Ft w w6 gO gU gB gA a b (List.replicate na (-1), List.replicate nb false) from ⟨HBO5.out.below hm6.below (by omega), HBU5.out.below hm6.below (by omega), HRB5.out.mor hm6, hr6, (Mor.trans' HM5.out hm6).below⟩)
  clear hr6 hm6 hg6 HBO5 HBU5 HRB5 HM5 h2'
  go_wp2_with fail
  have HLa := Lib.hid (dord_len HNa.out)
  have HLb := Lib.hid (dord_len HNb.out)
  obtain ⟨S0, hS0⟩ : ∃ S0, S0 = (List.replicate na (-1), List.replicate nb false) := ⟨_, rfl⟩
  have HS0 := Lib.hid hS0
  rw [← hS0] at HFt
  clear hS0
  have HG1 := Lib.hid (show gO < gU ∧ gU < gB ∧ gB < gA from ⟨h1, h2, h3⟩)
  have e12 : gO ≠ gU := by omega
  have e13 : gO ≠ gB := by omega
  have e14 : gO ≠ gA := by omega
  have e23 : gU ≠ gB := by omega
  have e24 : gU ≠ gA := by omega
  go_loopw [46] (fun i wr => ∃ j : Nat, j ≤ na ∧ i = .int .i64 j ∧ Hid (Ft w wr gO gU gB gA a b (tieS a b v (dord b) S0 ((dord a).take j)))) (fun i _ => na - (intOf i).toNat)
  case atStart => exact ⟨0, Nat.zero_le _, rfl, HFt⟩
  case round =>
    obtain ⟨j, hj, rfl, HF⟩ := hrel
    by_cases hlt : j < na
    · have hji : (j : Int) < (na : Int) := by omega
      have hj0 : (0 : Int) ≤ (j : Int) := by omega
      obtain ⟨i, hi, hie⟩ := dord_at HNa.out hlt
      have cA : wr.cell? ⟨gA, j, none⟩ = some (.int .i64 i) := by
        have := HF.out.rA.get j (by rw [HLa.out]; exact hlt)
        rw [Nat.zero_add] at this
        rw [this, ← hie]; rfl
      have HSu := Lib.hid (show tieS a b v (dord b) S0 ((dord a).take (j + 1)) = tstep a b v (dord b) (tieS a b v (dord b) S0 ((dord a).take j)) (i : Int) by rw [tieS_succ (by rw [HLa.out]; exact hlt), hie])
      have HLs := Lib.hid (show (tieS a b v (dord b) S0 ((dord a).take j)).1.length = na ∧ (tieS a b v (dord b) S0 ((dord a).take j)).2.length = nb by
        rw [tieS_len.1, tieS_len.2, HS0.out]; simp)
      generalize tieS a b v (dord b) S0 ((dord a).take j) = s at *
      have hii : (i : Int) < (na : Int) := by omega
      have hi0 : (0 : Int) ≤ (i : Int) := by omega
      clear hie
      go_wp2
      go_loopw [52] (fun q wq => ∃ p : Nat, p ≤ nb ∧ q = .int .i64 p ∧ Hid (Ft w wq gO gU gB gA a b s) ∧ Hid (∀ r, r < p → ser a b v s.2 i (ge (dord b) r) = false)) (fun q _ => nb - (intOf q).toNat)
      case atStart => exact ⟨0, Nat.zero_le _, rfl, HF, Lib.hid (fun r hr => absurd hr (Nat.not_lt_zero _))⟩
      case round =>
        obtain ⟨p, hp, rfl, HFq, HNo⟩ := hrel
        by_cases hpt : p < nb
        · have hpi : (p : Int) < (nb : Int) := by omega
          have hp0 : (0 : Int) ≤ (p : Int) := by omega
          obtain ⟨k, hk, hke⟩ := dord_at HNb.out hpt
          have cB : wr.cell? ⟨gB, p, none⟩ = some (.int .i64 k) := by
            have := HFq.out.rB.get p (by rw [HLb.out]; exact hpt)
            rw [Nat.zero_add] at this
            rw [this, ← hke]; rfl
          obtain ⟨xA, hA, _, ca1, ca2⟩ := (HRa.out.below HFq.out.below).at_ i (by rw [HNa.out]; exact hi)
          obtain ⟨xB, hB, _, cb1, cb2⟩ := (HRb.out.below HFq.out.below).at_ k (by rw [HNb.out]; exact hk)
          subst hA hB
          have cU : wr.cell? ⟨gU, k, none⟩ = some (.bool (s.2.getD k false)) := by rw [HFq.out.vU.cell, bc_get _ _ (by rw [HLs.out.2]; exact hk)]
          have cO : wr.cell? ⟨gO, i, none⟩ = some (.int .i64 (s.1.getD i 0)) := by rw [HFq.out.vO.cell, ic_get _ _ (by rw [HLs.out.1]; exact hi)]
          have fU : wr.frozen? ⟨gU, k, none⟩ = false := HFq.out.vU.frozen k
          have fO : wr.frozen? ⟨gO, i, none⟩ = false := HFq.out.vO.frozen i
          have HSe := Lib.hid (show ser a b v s.2 i (ge (dord b) p) = (!(s.2.getD k false) && (decide (py a i = py b k) && (decide (px a i - px b k ≤ v) && decide (-(px a i - px b k) ≤ v)))) by rw [hke, ser_eq])
          have HNx := Lib.hid (fun h : ser a b v s.2 i (ge (dord b) p) = false => show ∀ r, r < p + 1 → ser a b v s.2 i (ge (dord b) r) = false from fun r hr => by
            rcases Nat.lt_or_ge r p with c | c
            · exact HNo.out r c
            · obtain rfl : r = p := by omega
              exact h)
          have HYs := Lib.hid (fun h : ser a b v s.2 i (ge (dord b) p) = true => show tstep a b v (dord b) s (i : Int) = (s.1.set i k, s.2.set k true) by
            rw [tstep_some (by rw [HLb.out]; exact hpt) HNo.out h, hke]; rfl)
          obtain ⟨wa1, wa2, _, _⟩ := HWa.out i hi
          obtain ⟨wb1, wb2, _, _⟩ := HWb.out k hk
          have hki : (k : Int) < (nb : Int) := by omega
          have hk0 : (0 : Int) ≤ (k : Int) := by omega
          clear hke
          generalize px a i = xa at *
          generalize px b k = xb at *
          generalize py a i = ya at *
          generalize py b k = yb at *
          generalize s.2.getD k false = u at *
          generalize s.1.getD i 0 = o at *
          obtain ⟨f, hf⟩ : ∃ f, xa - xb = f := ⟨_, rfl⟩
          have hfw : IntKind.i64.wrap f = f := IntWalk.i64_in _ (by omega)
          have hfn : IntKind.i64.wrap (-f) = -f := IntWalk.i64_in _ (by omega)
          rw [hf] at HSe
          clear wa1 wa2 wb1 wb2
          have hcase : u = true ∨ (u = false ∧ ya ≠ yb) ∨ (u = false ∧ ya = yb ∧ v < f) ∨ (u = false ∧ ya = yb ∧ f ≤ v ∧ v < -f) ∨ (u = false ∧ ya = yb ∧ f ≤ v ∧ -f ≤ v) := by
            cases u
            · right
              by_cases e : ya = yb
              · right; simp only [e, true_and]; omega
              · left; exact ⟨rfl, e⟩
            · left; rfl
          rcases hcase with h | ⟨h, g1⟩ | ⟨h, g1, g2⟩ | ⟨h, g1, g2, g3⟩ | ⟨h, g1, g2, g3⟩
          · subst h
            have HX := Lib.hid (HNx.out (by rw [HSe.out]; rfl))
            go_wp2
            go_quiet (fail)
            go_wp2
            go_quiet (fail)
            go_wp2
            go_roundw
            case rel => exact ⟨p + 1, by omega, by go_num, Lib.hid (by first | exact HFq.out.drewN _ | exact HFq.out), HX⟩
            case measure => simp [intOf]; omega
          · subst h
            have HX := Lib.hid (HNx.out (by rw [HSe.out]; simp [g1]))
            have gb : (ya == yb) = false := by simpa using g1
            go_wp2
            go_quiet (fail)
            go_wp2
            go_quiet (fail)
            go_wp2
            go_roundw
            case rel => exact ⟨p + 1, by omega, by go_num, Lib.hid (by first | exact HFq.out.drewN _ | exact HFq.out), HX⟩
            case measure => simp [intOf]; omega
          · subst h g1
            have HX := Lib.hid (HNx.out (by rw [HSe.out]; simp; omega))
            have gb : decide (f ≤ v) = false := by simpa using g2
            go_wp2
            go_quiet (fail)
            go_wp2
            go_quiet (fail)
            go_wp2
            go_roundw
            case rel => exact ⟨p + 1, by omega, by go_num, Lib.hid (by first | exact HFq.out.drewN _ | exact HFq.out), HX⟩
            case measure => simp [intOf]; omega
          · subst h g1
            have HX := Lib.hid (HNx.out (by rw [HSe.out]; simp; omega))
            have gb : decide (f ≤ v) = true := by simpa using g2
            have gc : decide (-f ≤ v) = false := by simpa using g3
            go_wp2
            go_quiet (fail)
            go_wp2
            go_quiet (fail)
            go_wp2
            go_roundw
            case rel => exact ⟨p + 1, by omega, by go_num, Lib.hid (by first | exact HFq.out.drewN _ | exact HFq.out), HX⟩
            case measure => simp [intOf]; omega
          · subst h g1
            have HX := Lib.hid (HYs.out (by rw [HSe.out]; simp; omega))
            have gb : decide (f ≤ v) = true := by simpa using g2
            have gc : decide (-f ≤ v) = true := by simpa using g3
            have HSt := Lib.hid (HFq.out.step HG1.out.1 HG1.out.2.1 HG1.out.2.2 HG3.out i k)
            go_wp2
            go_quiet (fail)
            go_wp2
            go_quiet (fail)
            go_wp2
            refine ⟨⟨j + 1, by omega, by go_num, Lib.hid (by rw [HSu.out, HX.out]; exact HSt.out.drewN _)⟩, by simp [intOf]; omega⟩
        · obtain rfl : p = nb := by omega
          have HE := Lib.hid (show tstep a b v (dord b) s (i : Int) = s from tstep_none (by rw [HLb.out]; exact HNo.out))
          go_wp2
          go_roundw
          case rel => exact ⟨j + 1, by omega, by go_num, Lib.hid (by rw [HSu.out, HE.out]; exact HFq.out)⟩
          case measure => simp [intOf]; omega
    · obtain rfl : j = na := by omega
      have HR := Lib.hid (show Row wr gO 0 (tieF a b v) by
        have := HF.out.vO.row
        rw [List.take_of_length_le (by rw [HLa.out]; exact Nat.le_refl _), HS0.out] at this
        unfold tieF
        rw [HNa.out, HNb.out]; exact this)
      go_wp2
      go_returns
      exact ⟨gO, by rw [HNa.out] <;> rfl, Mor.of_below HF.out.below, HR.out, HG3.out⟩
theorem tie_no (A : Option Addr) (na capa : Nat) (a : List Pr) (B : Option Addr) (nb capb : Nat) (b : List Pr) (v : Int) (w : World) (hra : Pi w A a) (hrb : Pi w B b) (hna : a.length = na) (hnb : b.length = nb) (hma : na ≤ maxLen) (hmb : nb ≤ maxLen) (hc : tiec a b v ≠ 0) :
    Calls Tryd.prog 24 #[.slice A na capa, .slice B nb capb, .int .i64 v] w (TieNo w (tiec a b v)) := by
  have HCa := Lib.hid (acheck_any A na capa a w hra hna hma)
  have HCb := Lib.hid (fun w1 (h : Mor w w1) => acheck_any B nb capb b w1 (hrb.mor h) hnb hmb)
  by_cases h1 : itc a = 0
  · by_cases h2 : itc b = 0
    · have HF := Lib.hid (show tiec a b v = 1 by
        unfold tiec at hc ⊢
        rw [if_neg (by simp [h1]), if_neg (by simp [h2])] at hc ⊢
        split at hc
        · rw [if_pos (by assumption)]
        · exact absurd rfl hc)
      have hv : v < 0 ∨ 292193 < v := by
        unfold tiec at hc
        rw [if_neg (by simp [h1]), if_neg (by simp [h2])] at hc
        split at hc
        · assumption
        · exact absurd rfl hc
      rw [h1] at HCa
      rw [h2] at HCb
      clear hc h1 h2
      rcases hv with h | h
      all_goals
        go_enter Tryd.func24, Tryd.ntmps24
        go_wp2_with fail
        refine HCa.out.mono ?_
        rintro e w1 ⟨rfl, hm1⟩
        have HM1 := Lib.hid hm1
        clear hm1
        go_wp2_with fail
        refine (HCb.out _ HM1.out).mono ?_
        rintro e w2 ⟨rfl, hm2⟩
        have HM2 := Lib.hid (Mor.trans' HM1.out hm2)
        clear hm2 HM1
        go_wp2_with fail
        go_returns
        exact ⟨by rw [HF.out] <;> rfl, HM2.out⟩
    · have HF := Lib.hid (show tiec a b v = itc b by unfold tiec; rw [if_neg (by simp [h1]), if_pos h2])
      have hb2 : (itc b == 0) = false := by simpa using h2
      rw [h1] at HCa
      generalize itc b = c at *
      clear hc h1
      go_enter Tryd.func24, Tryd.ntmps24
      go_wp2_with fail
      refine HCa.out.mono ?_
      rintro e w1 ⟨rfl, hm1⟩
      have HM1 := Lib.hid hm1
      clear hm1
      go_wp2_with fail
      refine (HCb.out _ HM1.out).mono ?_
      rintro e w2 ⟨rfl, hm2⟩
      have HM2 := Lib.hid (Mor.trans' HM1.out hm2)
      clear hm2 HM1
      go_wp2_with fail
      go_returns
      exact ⟨by rw [HF.out] <;> rfl, HM2.out⟩
  · have HF := Lib.hid (show tiec a b v = itc a by unfold tiec; rw [if_pos h1])
    have hb2 : (itc a == 0) = false := by simpa using h1
    generalize itc a = c at *
    clear hc
    go_enter Tryd.func24, Tryd.ntmps24
    go_wp2_with fail
    refine HCa.out.mono ?_
    rintro e w1 ⟨rfl, hm1⟩
    have HM1 := Lib.hid hm1
    clear hm1
    go_wp2_with fail
    go_returns
    exact ⟨by rw [HF.out] <;> rfl, HM1.out⟩

end Go.Proofs.YtahegjhjonodlaaDoor
