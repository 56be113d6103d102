/- ItemsOwn: what is read behind a spoiling; rows that came in, with room behind them. -/
import Derived.Test.YtahegjhjonodlaaDoorPItemsOwnZ1
import Derived.Test.YtahegjhjonodlaaDoorPItemsOwnZ2
import Derived.Test.YtahegjhjonodlaaDoorPItemsOwnZ3
import Derived.Test.YtahegjhjonodlaaDoorPItemsOwnZ4
import Derived.Test.YtahegjhjonodlaaDoorPItemsOwnZ5
import Derived.Test.YtahegjhjonodlaaDoorPItemsOwnZ6
import Derived.Test.YtahegjhjonodlaaDoorPItemsOwnZ7
import Derived.Test.YtahegjhjonodlaaDoorPItemsOwnZ8
import Derived.Test.YtahegjhjonodlaaDoorPItemsOwnZ9
import Derived.Test.YtahegjhjonodlaaDoorPItemsOwnZ10
import Derived.Test.YtahegjhjonodlaaDoorPItemsOwnZ11
import Derived.Test.YtahegjhjonodlaaDoorPItemsOwnZ12
import Derived.Test.YtahegjhjonodlaaDoorPItemsOwnZ13
import Derived.Test.YtahegjhjonodlaaDoorPItemsOwnZ14
import Derived.Test.YtahegjhjonodlaaDoorPItemsOwnZ15
import Derived.Test.YtahegjhjonodlaaDoorPItemsOwnZ16
import Derived.Test.YtahegjhjonodlaaDoorPItemsOwnZ17
import Derived.Test.YtahegjhjonodlaaDoorPItemsOwnZ18
import Derived.Test.YtahegjhjonodlaaDoorPItemsOwnZ19
import Derived.Test.YtahegjhjonodlaaDoorPItemsOwnZ20
import Derived.Test.YtahegjhjonodlaaDoorPItemsOwnZ21
import Derived.Test.YtahegjhjonodlaaDoorPItemsOwnZ22
import Derived.Test.YtahegjhjonodlaaDoorPItemsOwnZ23
import Derived.Test.YtahegjhjonodlaaDoorPItemsOwnZ24
import Derived.Test.YtahegjhjonodlaaDoorPItemsOwnZ25
import Derived.Test.YtahegjhjonodlaaDoorPItemsOwnZ26
import Derived.Test.YtahegjhjonodlaaDoorPItemsOwnZ27
import Derived.Test.YtahegjhjonodlaaDoorPItemsOwnZ28
import Derived.Test.YtahegjhjonodlaaDoorPItemsOwnZ29
import Derived.Test.YtahegjhjonodlaaDoorPItemsOwnZ30
import Derived.Test.YtahegjhjonodlaaDoorPItemsOwnZ31
import Derived.Test.YtahegjhjonodlaaDoorPItemsOwnZ32
import Derived.Test.YtahegjhjonodlaaDoorPItemsOwnZ33
import Derived.Test.YtahegjhjonodlaaDoorPItemsOwnZ34
import Derived.Test.YtahegjhjonodlaaDoorPItemsOwnZ35
import Derived.Test.YtahegjhjonodlaaDoorPItemsOwnZ36
import Derived.Test.YtahegjhjonodlaaDoorPItemsOwnZ37
import Derived.Test.YtahegjhjonodlaaDoorPItemsOwnZ38
import Derived.Test.YtahegjhjonodlaaDoorPItemsOwnZ39
import Derived.Test.YtahegjhjonodlaaDoorPItemsOwnZ40
import Derived.Test.YtahegjhjonodlaaDoorPItemsOwnZ41
import Derived.Test.YtahegjhjonodlaaDoorPItemsOwnZ42
import Derived.Test.YtahegjhjonodlaaDoorPItemsOwnZ43
import Derived.Test.YtahegjhjonodlaaDoorPItemsOwnZ44
import Derived.Test.YtahegjhjonodlaaDoorPItemsOwnZ45
import Derived.Test.YtahegjhjonodlaaDoorRows
import Derived.ArgAppend
import Derived.BigQuiet
import Derived.BigRegion
import Derived.DataElems
import Derived.Deep.AppendSrc
import Derived.Deep.DeepAppendRoom
import Derived.Deep.DeepCutAuto
import Derived.Deep.LoopGhost
import Derived.Deep.OwnRows
import Derived.Deep.QuietTactic
import Derived.Deep.RegionHeld3
import Derived.Deep.RegionLaw
import Derived.Deep.RegionWith
import Derived.Deep.SlicePairs
import Derived.Deep.Slices
import Derived.Deep.Strs
import Derived.Handy
import Derived.Laws.AppendOwn
import Derived.Laws.Bits64b
import Derived.Laws.BytesArg
import Derived.Laws.CopyOwn
import Derived.Laws.Cover1
import Derived.Laws.IdiomCopy
import Derived.Laws.StandIn
import Derived.Lib.Bytealg
import Derived.Lib.Hide
import Derived.Lib.LaidTab
import Derived.Lib.SliceRun
import Derived.Lib.Walk
import Derived.OpenShut
import Derived.Outline
import Derived.OwnWalk
import Derived.PlainAid
import Derived.ProofKit
import Derived.RegionTactic
import Derived.Shelf.Abstract
import Derived.Sort.Walk0
import Derived.WalkKit
import Derived.WalkSpells
namespace Go.Proofs.YtahegjhjonodlaaDoor
open Go.ChangeShapes Go.WideShapes Go.ChangeAt Go.RowKit Stb
set_option linter.unusedVariables false
set_option maxRecDepth 100000

theorem Ri.but {P : Nat → Prop} {w w' : World} {A : Option Addr} {xs : List Int} (h : Ri w A xs) (hb : But P w w') (hp : ∀ x, A = some x → ¬ P x.block) : Ri w' A xs := by
  rcases h with h | ⟨x, e, hx, hc⟩
  · exact .inl h
  · have hk := hb.block x.block hx (hp x e)
    exact .inr ⟨x, e, Nat.lt_of_lt_of_le hx hb.size, fun i hi => (World.cell?_of_block (w := w) (by rw [addb]; exact hk)).trans (hc i hi)⟩
theorem Pi.but {P : Nat → Prop} {w w' : World} {A : Option Addr} {xs : List Pr} (h : Pi w A xs) (hb : But P w w') (hp : ∀ x, A = some x → ¬ P x.block) : Pi w' A xs := by
  rcases h with h | ⟨x, e, hx, hc⟩
  · exact .inl h
  · have hk := hb.block x.block hx (hp x e)
    exact .inr ⟨x, e, Nat.lt_of_lt_of_le hx hb.size, fun i hi => ⟨(World.cell?_of_block (w := w) (by rw [addb]; exact hk)).trans (hc i hi).1, (World.cell?_of_block (w := w) (by show _ = w.heap[(x.add (i * 2)).block]?; rw [addb]; exact hk)).trans (hc i hi).2⟩⟩
/-- a row with room reads as the row -/
theorem Rd.blk3 {w : World} {g : Nat} {t : TypeId} {cs us : List Value} (h : Blk w g t (room3 cs us).toArray) : Rd w (some ⟨g, 0, none⟩) cs := by
  refine .inr ⟨g, 0, rfl, h.lt, fun i hi => ?_⟩
  rw [Nat.zero_add, h.cell, List.getElem?_toArray, room3_old _ _ _ hi, List.getD_eq_getElem?_getD, List.getElem?_eq_getElem hi]; rfl
theorem Pi.blk3 {w : World} {g : Nat} {t : TypeId} {xs : List Pr} {us : List Value} (h : Blk w g t (room3 (flat pp xs) us).toArray) : Pi w (some ⟨g, 0, none⟩) xs := (Rd.blk3 h).pi
/-- the seven cells of a plan -/
def pl7 (p : Pln) : List Value := [.string p.key, .int .i64 p.kind, .int .i64 p.frm, .int .i64 p.amt, .int .i64 p.num, .string p.deb, .string p.cre]
theorem pl7_len : ∀ p, (pl7 p).length = 7 := fun _ => rfl
theorem pl7_one (ps : List Pln) : ∀ u ∈ flat pl7 ps, u.oneCell' = true := by
  intro u hu
  simp only [flat, List.mem_flatMap, pl7, List.mem_cons, List.not_mem_nil, or_false] at hu
  obtain ⟨x, _, rfl | rfl | rfl | rfl | rfl | rfl | rfl⟩ := hu <;> rfl
theorem pl_flat {w : World} {x : Addr} {ps : List Pln} (h : Ps w (some x) ps) (j : Nat) (u : Value) (hu : (flat pl7 ps)[j]? = some u) : w.cell? (x.add j) = some u := by
  have hl := flat_len pl7 7 pl7_len ps
  have hj : j < ps.length * 7 := by
    rcases Nat.lt_or_ge j (flat pl7 ps).length with h | h
    · omega
    · rw [List.getElem?_eq_none h] at hu; cases hu
  have hk : j / 7 < ps.length := by omega
  obtain ⟨y, hy, _, _, hp⟩ := h.at_ (j / 7) hk
  injection hy with hy
  subst hy
  have hg := flat_get pl7 7 pl7_len ps (j / 7) (j % 7) hk (by omega) (.int .i64 0)
  rw [show j / 7 * 7 + j % 7 = j by omega, List.getD_eq_getElem?_getD, hu, ← np_eq ps _ hk] at hg
  have hr : j % 7 < 7 := Nat.mod_lt _ (by omega)
  have ej : x.add j = (x.add (j / 7 * 7)).add (j % 7) := by rw [Addr.add_add]; congr 1; omega
  rw [ej]
  generalize j % 7 = r at *
  match r, hr with
  | 0, _ => rw [show (x.add (j / 7 * 7)).add 0 = x.add (j / 7 * 7) by rw [Addr.add_add]; rfl, hp.c0]; simpa [pl7] using hg.symm
  | 1, _ => rw [Addr.add_succ']; exact hp.c1.trans (by simpa [pl7] using hg.symm)
  | 2, _ => rw [Addr.add_succ']; exact hp.c2.trans (by simpa [pl7] using hg.symm)
  | 3, _ => rw [Addr.add_succ']; exact hp.c3.trans (by simpa [pl7] using hg.symm)
  | 4, _ => rw [Addr.add_succ']; exact hp.c4.trans (by simpa [pl7] using hg.symm)
  | 5, _ => rw [Addr.add_succ']; exact hp.c5.trans (by simpa [pl7] using hg.symm)
  | 6, _ => rw [Addr.add_succ']; exact hp.c6.trans (by simpa [pl7] using hg.symm)
theorem Ps.wf {w : World} {A : Option Addr} {ps : List Pln} (h : Ps w A ps) : ∀ i, i < ps.length → Pwf (np ps i) := fun i hi => by
  obtain ⟨_, _, _, hw, _⟩ := h.at_ i hi; exact hw
theorem Ps.blk3 {w : World} {g : Nat} {t : TypeId} {ps : List Pln} {us : List Value} (h : Blk w g t (room3 (flat pl7 ps) us).toArray) (hw : ∀ i, i < ps.length → Pwf (np ps i)) : Ps w (some ⟨g, 0, none⟩) ps := by
  refine .inr ⟨⟨g, 0, none⟩, rfl, h.lt, fun i hi => ⟨hw i hi, ?_⟩⟩
  obtain ⟨b, o, e, _, hc⟩ := Rd.field 7 pl7_len (Rd.blk3 h) i hi (by omega)
  injection e with e
  injection e with e1 e2
  subst e1 e2
  rw [adds]
  rw [← np_eq ps _ hi] at hc
  have h0 := hc 0 (by omega)
  rw [Nat.add_zero] at h0
  exact ⟨h0, hc 1 (by omega), hc 2 (by omega), hc 3 (by omega), hc 4 (by omega), hc 5 (by omega), hc 6 (by omega)⟩
/-- the slice of entry i's lines, read -/
theorem own_ent {w : World} {B m : Nat} {v : Value} {qs : List Ev} (h : w.ownsRow B 84 3 v m (flat ec qs)) (hq : qs.length = m) (i : Nat) (hi : i < m) :
    ∃ g k, v = .slice (some ⟨g, 0, none⟩) m k ∧ B ≤ g ∧ g < w.heap.size ∧ w.cell? ⟨g, i * 3, none⟩ = some (.string (qe qs i).key) ∧ w.cell? ⟨g, i * 3 + 1, none⟩ = some (.int .i64 (qe qs i).day) ∧ w.cell? ⟨g, i * 3 + 2, none⟩ = some (.slice (qe qs i).A (qe qs i).n (qe qs i).c) := by
  have hr := h
  obtain ⟨hlen, hh | ⟨g, cap, cur, rfl, hg, hb, h1, h2, h3, h4⟩⟩ := h
  · obtain ⟨_, rfl⟩ := hh; omega
  · refine ⟨g, cap, rfl, hg, (Array.getElem?_eq_some_iff.1 hb).1, ?_⟩
    have hi' : i < qs.length := by rw [hq]; exact hi
    obtain ⟨b', o', hA', _, hc⟩ := Rd.field 3 ec_len (Rd.own hr) i hi' (by omega)
    injection hA' with hA'
    injection hA' with e1 e2
    subst e1 e2
    have c0 := hc 0 (by omega)
    have c1 := hc 1 (by omega)
    have c2 := hc 2 (by omega)
    have eq1 : qs[i] = qe qs i := (qe_eq qs i hi').symm
    refine ⟨?_, ?_, ?_⟩
    · rw [← eq1]; simpa [ec] using c0
    · rw [← eq1]; simpa [ec] using c1
    · rw [← eq1]; simpa [ec] using c2
/-- the slices of lines that a row of clones holds -/
structure Sn where
  A : Option Addr
  n : Nat
  c : Nat
  xs : List Ln
def Sn.v (s : Sn) : Value := .slice s.A s.n s.c
def nth (L : List Sn) (k : Nat) : Sn := L.getD k ⟨none, 0, 0, []⟩
def OwnSn (w : World) (B : Nat) (s : Sn) : Prop := w.ownsRow B 87 2 s.v s.n (flat pc s.xs)
theorem own_sn {w : World} {B n : Nat} {t : TypeId} {v : Value} {qs : List Sn} (h : w.ownsRow B t 1 v n (qs.map Sn.v)) (hq : qs.length = n) {k : Nat} (hk : k < n) :
    ∃ g c, v = .slice (some ⟨g, 0, none⟩) n c ∧ B ≤ g ∧ g < w.heap.size ∧ w.cell? ⟨g, k, none⟩ = some (.slice (nth qs k).A (nth qs k).n (nth qs k).c) := by
  obtain ⟨hl, hh | ⟨g, cap, cur, rfl, hg, hb, h1, h2, h3, h4⟩⟩ := h
  · omega
  · refine ⟨g, cap, rfl, hg, Blk.lt (cs := cur) hb, ?_⟩
    rw [Blk.cell (cs := cur) hb]
    have e : (cur.toList.take (n * 1))[k]? = (qs.map Sn.v)[k]? := by rw [h4]
    rw [List.getElem?_take, if_pos (by omega), List.getElem?_map, List.getElem?_eq_getElem (show k < qs.length by omega)] at e
    rw [← Array.getElem?_toList, e]
    simp [nth, Sn.v, List.getD_eq_getElem?_getD, List.getElem?_eq_getElem (show k < qs.length by omega)]
theorem own_si {w : World} {B n c : Nat} {A : Option Addr} {xs : List Ln} (h : w.ownsRow B 87 2 (.slice A n c) n (flat pc xs)) : Si w A xs := Si.of_rd (Rd.own h)
theorem own_some {w : World} {B s n c : Nat} {T : TypeId} {A : Option Addr} {vs : List Value} (h : w.ownsRow B T s (.slice A n c) n vs) (hn : 0 < n) : ∃ x, A = some x := by
  obtain ⟨A', c', e, _, _, hA⟩ := own_shape h
  obtain ⟨g, hg, _⟩ := hA hn
  injection e with e1 _ _
  exact ⟨_, e1.trans hg⟩
/-- the blocks of the first k entries' lines -/
def Lk (P : Nat → Prop) (qs : List Ev) (k : Nat) (b : Nat) : Prop := P b ∨ ∃ j, j < k ∧ (ql (qe qs j)).ownBlock = some b
theorem Lk.up {P : Nat → Prop} {qs : List Ev} {k : Nat} : ∀ b, Lk P qs k b → Lk P qs (k + 1) b := by
  rintro b (h | ⟨j, h, e⟩)
  · exact .inl h
  · exact .inr ⟨j, by omega, e⟩

end Go.Proofs.YtahegjhjonodlaaDoor

/- The walk of talkeep.ItemsOwn. -/
namespace Go.Proofs.YtahegjhjonodlaaDoor.itemsOwn
open Go.ChangeShapes Go.WideShapes Go.ChangeAt Go.RowKit Stb
set_option linter.unusedVariables false
set_option maxRecDepth 100000

theorem info_lns : (Tryd.prog.info? 82).map (fun i => (i.zero, i.size, i.bytes)) = some (some (.slice none 0 0), 1, 24) := by kernel_rfl
theorem beg_code : tiec [(0, 1)] [(0, 1)] 0 = 0 := by decide +kernel
theorem beg : tieF [(0, 1)] [(0, 1)] 0 = [0] := by decide +kernel

/-- the three lists with room, made one behind the other -/
def Three (wm wx : World) (n1 n2 n3 : Nat) (c1 c2 c3 : List Value) (s1 s2 s3 : Value) : Prop :=
  ∃ gM gP gQ, s1 = .slice (some ⟨gM, 0, none⟩) n1 (n1 + 3) ∧ s2 = .slice (some ⟨gP, 0, none⟩) n2 (n2 + 3) ∧ s3 = .slice (some ⟨gQ, 0, none⟩) n3 (n3 + 3) ∧ wm.heap.size ≤ gM ∧ gM < gP ∧ gP < gQ ∧ Mor wm wx ∧
    Blk wx gM 55 c1.toArray ∧ Blk wx gP 52 c2.toArray ∧ Blk wx gQ 52 c3.toArray

set_option maxRecDepth 100000 in
set_option maxHeartbeats 3200000 in
theorem itemsOwn_walk (w : World) (ht : Tab w) (A1 : Option Addr) (n1 k1 : Nat) (ms : List Pr) (h1 : IsPr w A1 n1 k1 ms) (r1 : n1 * 16 ≤ 140737488351232) (A2 : Option Addr) (n2 k2 : Nat) (xa : List Pr) (h2 : IsPr w A2 n2 k2 xa) (r2 : n2 * 16 ≤ 140737488351232)
    (A3 : Option Addr) (n3 k3 : Nat) (xb : List Pr) (h3 : IsPr w A3 n3 k3 xb) (r3 : n3 * 16 ≤ 140737488351232) (A4 : Option Addr) (n4 k4 : Nat) (ps : List Pln) (h4 : Ps w A4 ps ∧ ps.length = n4 ∧ n4 ≤ k4 ∧ k4 ≤ maxLen ∧ (A4 = none → n4 = 0)) (r4 : n4 * 80 ≤ 140737488351232)
    (q : Int) (wq : (Lit.int .i64 q).wf = true) :
    Calls Tryd.prog 4 #[.slice A1 n1 k1, .slice A2 n2 k2, .slice A3 n3 k3, .slice A4 n4 k4, .int .i64 q] w fun e w' => e = .returned (.bool true) ∧ Below w.heap.size w w' := by
  have l1 : n1 ≤ 8796093022000 := by omega
  have l2 : n2 ≤ 8796093022000 := by omega
  have l3 : n3 ≤ 8796093022000 := by omega
  have l4 : n4 ≤ 1759218604400 := by omega
  clear r1 r2 r3 r4
  have HI1 := Lib.hid h1.pi
  have HI2 := Lib.hid h2.pi
  have HI3 := Lib.hid h3.pi
  have HI4 := Lib.hid h4.1
  have HN1 := Lib.hid h1.length
  have HN2 := Lib.hid h2.length
  have HN3 := Lib.hid h3.length
  have HN4 := Lib.hid h4.2.1
  have HZ1 := Lib.hid h1.nil
  have HZ2 := Lib.hid h2.nil
  have HZ3 := Lib.hid h3.nil
  have HZ4 := Lib.hid h4.2.2.2.2
  have HT := Lib.hid ht
  have P0 := wi_lo q 10000 (by omega)
  have P9 := wi_hi q 10000 (by omega)
  have HWi := Lib.hid (fun w => within_any q 10000 w (by omega) (by omega))
  generalize wi q 10000 = p at *
  have D0 := wi_lo q 292194 (by omega)
  have D9 := wi_hi q 292194 (by omega)
  have HDy := Lib.hid (fun w => cday_any q w)
  generalize wi q 292194 = dd at *
  clear h1 h2 h3 h4 ht
  have HR1 := Lib.hid (fun w' (h : Mor w w') => roomy_mv A1 n1 k1 (flat pp ms) 0 (-5) w' (fun W hW y hy j u hu => pi_flat (by have := (HI1.out.mor h).mor hW; rw [hy] at this; exact this) j u hu) (flat_oneY ms) (by rw [flat_len pp 2 pp_len, HN1.out]) HZ1.out (by omega))
  have HR2 := Lib.hid (fun w' (h : Mor w w') => roomy_it A2 n2 k2 (flat pp xa) (-5) 0 w' (fun W hW y hy j u hu => pi_flat (by have := (HI2.out.mor h).mor hW; rw [hy] at this; exact this) j u hu) (flat_oneY xa) (by rw [flat_len pp 2 pp_len, HN2.out]) HZ2.out (by omega))
  have HR3 := Lib.hid (fun w' (h : Mor w w') => roomy_it A3 n3 k3 (flat pp xb) (-5) 0 w' (fun W hW y hy j u hu => pi_flat (by have := (HI3.out.mor h).mor hW; rw [hy] at this; exact this) j u hu) (flat_oneY xb) (by rw [flat_len pp 2 pp_len, HN3.out]) HZ3.out (by omega))
  have HR4 := Lib.hid (fun w' (h : Mor w w') => roomy_pl A4 n4 k4 (flat pl7 ps) { data := #[109, 97, 114, 107] } 0 0 0 0 { data := #[] } { data := #[] } w' (fun W hW y hy j u hu => pl_flat (by have := (HI4.out.mor h).mor hW; rw [hy] at this; exact this) j u hu) (pl7_one ps) (by rw [flat_len pl7 7 pl7_len, HN4.out]) HZ4.out (by omega))
  have HTi := Lib.hid (fun (w' : World) (X Y : Option Addr) (hX : Pi w' X [(0, 1)]) (hY : Pi w' Y [(0, 1)]) => show Calls Tryd.prog 24 #[.slice X 1 1, .slice Y 1 1, .int .i64 0] w' fun e w'' => ∃ g, e = .returned (.tuple #[.slice (some ⟨g, 0, none⟩) 1 1, .int .i64 0]) ∧ Mor w' w'' ∧ Row w'' g 0 [0] from
    (tie_ok2 X 1 1 [(0, 1)] Y 1 1 [(0, 1)] 0 w' hX hY rfl rfl beg_code).mono (by rintro e w'' ⟨g, h1, h2, h3, _⟩; exact ⟨g, h1, h2, by rw [← beg]; exact h3⟩))
  go_enter Tryd.func4, Tryd.ntmps4
  go_wp2_with fail
  refine (HTi.out _ _ _ ((pi_new [(0, 1)] rfl rfl).mor (Mor.refl _).alloc) (pi_new [(0, 1)] (by rw [szAl]) rfl)).mono ?_
  rintro e wa ⟨g1, rfl, hm1, hr1⟩
  have HMa := Lib.hid (((Mor.refl w).alloc.alloc).trans' hm1)
  have HEq := Lib.hid (fun w' (h : Mor wa w') c c' (B : Option Addr) (hB : Ri w' B [0]) => equal_ri2 (some ⟨g1, 0, none⟩) B 1 c c' [0] w' ((Ri.of_row hr1).mor h) hB rfl (by omega))
  clear hm1 hr1 HTi
  go_wp2_with fail
  refine (HEq.out _ (Mor.refl _).alloc _ _ _ (Ri.of_row (row_lit [0] (by simp) rfl))).mono ?_
  rintro e wb ⟨rfl, hm2⟩
  have HMb := Lib.hid (HMa.out.trans' ((Mor.refl _).alloc.trans' hm2))
  clear hm2 HEq HMa
  go_wp2_with fail
  obtain ⟨wm, hwm⟩ : ∃ wm, wm = wb.alloc (.cells #[.int .i64 (-5), .int .i64 0] 52) := ⟨_, rfl⟩
  have HMm := Lib.hid (show Mor w wm by rw [hwm]; exact HMb.out.alloc)
  have HK0 := Lib.hid (fun w' (h : Mor wm w') => show Blk w' wb.heap.size 52 #[.int .i64 (-5), .int .i64 0] from (show Blk wm wb.heap.size _ _ by rw [hwm]; exact Blk.new _ _ _).below h.below (show Blk wm wb.heap.size 52 #[.int .i64 (-5), .int .i64 0] by rw [hwm]; exact Blk.new _ _ _).lt)
  rw [← hwm]
  clear hwm
  obtain ⟨bm, hbm⟩ : ∃ bm, bm = wb.heap.size := ⟨_, rfl⟩
  rw [← hbm] at HK0
  rw [← hbm]
  clear hbm
  have HKm := Lib.hid (fun w' (h : Mor wm w') => show w'.cell? ⟨bm, 0, none⟩ = some (.int .i64 (-5)) ∧ w'.cell? ⟨bm, 1, none⟩ = some (.int .i64 0) from ⟨by rw [(HK0.out w' h).cell]; rfl, by rw [(HK0.out w' h).cell]; rfl⟩)
  have hbml : bm < wm.heap.size := (HK0.out wm (Mor.refl _)).lt
  obtain ⟨hk0, hk1⟩ := HKm.out wm (Mor.refl _)
  go_cut [14, 15, 16] (fun s14 s15 s16 wx => Hid (Three wm wx n1 n2 n3 (room3 (flat pp ms) [.int .i64 0, .int .i64 (-5)]) (room3 (flat pp xa) [.int .i64 (-5), .int .i64 0]) (room3 (flat pp xb) [.int .i64 (-5), .int .i64 0]) s14 s15 s16))
  case first =>
    go_region_held3 (fun w' => w'.cell? ⟨bm, 0, none⟩ = some (.int .i64 (-5)) ∧ w'.cell? ⟨bm, 1, none⟩ = some (.int .i64 0)) (first | exact HKm.out _ (by repeat (first | exact Mor.refl _ | exact HY3.out | exact HY2.out | exact HY1.out | apply Mor.alloc | apply Mor.more | apply Mor.drewN | apply Mor.drew))) (first
      | (go_at_call 25; (with_reducible refine (HR1.out _ (HMm.out.trans' (by repeat (first | exact Mor.refl _ | exact HY3.out | exact HY2.out | exact HY1.out | apply Mor.alloc | apply Mor.more | apply Mor.drewN | apply Mor.drew)))).mono ?_); rintro e w1 ⟨gM, rfl, hg1, hm1, hb1⟩; have HY1 := Lib.hid (show Mor wm w1 from Mor.trans' (by repeat (first | exact Mor.refl _ | exact HY3.out | exact HY2.out | exact HY1.out | apply Mor.alloc | apply Mor.more | apply Mor.drewN | apply Mor.drew)) hm1); have HG1 := Lib.hid (show wm.heap.size ≤ gM from hg1); have HB1 := Lib.hid hb1; clear hg1 hm1 hb1)
      | (go_at_call 26; (with_reducible refine (HR2.out _ (HMm.out.trans' (by repeat (first | exact Mor.refl _ | exact HY3.out | exact HY2.out | exact HY1.out | apply Mor.alloc | apply Mor.more | apply Mor.drewN | apply Mor.drew)))).mono ?_); rintro e w2 ⟨gP, rfl, hg2, hm2, hb2⟩; have HX2 := Lib.hid (show Mor w1 w2 from Mor.trans' (by repeat (first | exact Mor.refl _ | apply Mor.alloc | apply Mor.more | apply Mor.drewN | apply Mor.drew)) hm2); have HY2 := Lib.hid (HY1.out.trans' HX2.out); have HG2 := Lib.hid (show w1.heap.size ≤ gP from hg2); have HB2 := Lib.hid hb2; clear hg2 hm2 hb2)
      | (go_at_call 26; (with_reducible refine (HR3.out _ (HMm.out.trans' (by repeat (first | exact Mor.refl _ | exact HY3.out | exact HY2.out | exact HY1.out | apply Mor.alloc | apply Mor.more | apply Mor.drewN | apply Mor.drew)))).mono ?_); rintro e w3 ⟨gQ, rfl, hg3, hm3, hb3⟩; have HX3 := Lib.hid (show Mor w2 w3 from Mor.trans' (by repeat (first | exact Mor.refl _ | apply Mor.alloc | apply Mor.more | apply Mor.drewN | apply Mor.drew)) hm3); have HY3 := Lib.hid (HY2.out.trans' HX3.out); have HG3 := Lib.hid (show w2.heap.size ≤ gQ from hg3); have HB3 := Lib.hid hb3; clear hg3 hm3 hb3))
    go_wp2_with fail
    go_meet
    exact Lib.hid ⟨gM, gP, gQ, rfl, rfl, rfl, HG1.out, by have := HG2.out; have := HB1.out.lt; omega, by have := HG3.out; have := HB2.out.lt; omega, HY3.out, (HB1.out.below HX2.out.below HB1.out.lt).below HX3.out.below (HB1.out.below HX2.out.below HB1.out.lt).lt, HB2.out.below HX3.out.below HB2.out.lt, HB3.out⟩
  case rest =>
  obtain ⟨gM, gP, gQ, rfl, rfl, rfl, hgM, hMP, hPQ, hm3, hbM, hbP, hbQ⟩ := hcut.out
  have HM3 := Lib.hid (HMm.out.trans' hm3)
  have HGM := Lib.hid (show w.heap.size ≤ gM by have := HMm.out.below.size; omega)
  have HOr := Lib.hid (And.intro hMP (And.intro hPQ hbQ.lt))
  have HB1 := Lib.hid hbM
  have HB2 := Lib.hid hbP
  have HB3 := Lib.hid hbQ
  have HKw := Lib.hid (fun w' (h : Mor wc w') => HKm.out w' (hm3.trans' h))
  clear hcut hgM hMP hPQ hm3 hbM hbP hbQ HKm HK0 hbml hk0 hk1 HR1 HR2 HR3 HMb HMm
  go_wp2_with fail
  refine (HR4.out _ HM3.out).mono ?_
  rintro e w4 ⟨gL, rfl, hg4, hm4, hb4⟩
  have HGL := Lib.hid (show wc.heap.size ≤ gL from hg4)
  have HM4 := Lib.hid (HM3.out.trans' hm4)
  have HB1' := Lib.hid (HB1.out.below hm4.below HB1.out.lt)
  have HB2' := Lib.hid (HB2.out.below hm4.below HB2.out.lt)
  have HB3' := Lib.hid (HB3.out.below hm4.below HB3.out.lt)
  have HB4 := Lib.hid hb4
  have HO4 := Lib.hid (show gM < gP ∧ gP < gQ ∧ gQ < gL ∧ gL < w4.heap.size from ⟨HOr.out.1, HOr.out.2.1, by have := HOr.out.2.2; omega, hb4.lt⟩)
  have HP1 := Lib.hid (Pi.blk3 HB1'.out)
  have HP2 := Lib.hid (Pi.blk3 HB2'.out)
  have HP3 := Lib.hid (Pi.blk3 HB3'.out)
  have HP4 := Lib.hid (Ps.blk3 HB4.out (HI4.out.wf))
  have HT4 := Lib.hid (HT.out.mor HM4.out)
  have HKc := Lib.hid (fun w' (h : Mor w4 w') => HKw.out w' (hm4.trans' h))
  clear hg4 hm4 hb4 HR4 HKw HB1 HB2 HB3 HOr
  have lm : ∀ k, k ≤ 8796093023000 → k ≤ maxLen := fun k hk => by unfold maxLen; omega
  have LM := Lib.hid lm
  clear lm
  go_wp2_with fail
  refine (fifo_new (some ⟨gM, 0, none⟩) n1 (n1 + 3) ms w4 HP1.out HN1.out (LM.out _ (by omega))).mono ?_
  rintro e u1 ⟨U1, m1, c1, U2, m2, c2, e1, os1, os2, rfl, hr1, hl1, hn1, hr2, hl2, hn2, hm⟩
  have HR1 := Lib.hid hr1
  have HL1 := Lib.hid hl1
  have HW1 := Lib.hid (Nw.mono hn1 (Nat.le_refl _))
  have HR2 := Lib.hid hr2
  have HL2 := Lib.hid hl2
  have HW2 := Lib.hid (Nw.mono hn2 (Nat.le_refl _))
  have HMu1 := Lib.hid (hm)
  have HSu1 := Lib.hid (show Mor w4 u1 from hm)
  clear hm hr1 hl1 hn1 hr2 hl2 hn2
  go_wp2_with fail
  refine (mean_new (some ⟨gM, 0, none⟩) n1 (n1 + 3) ms u1 (HP1.out.mor HMu1.out) HN1.out (LM.out _ (by omega))).mono ?_
  rintro e u2 ⟨U3, m3, c3, ea, eb, e2, os3, rfl, hr3, hl3, hn3, hm⟩
  have HR3 := Lib.hid hr3
  have HL3 := Lib.hid hl3
  have HW3 := Lib.hid (Nw.mono hn3 HMu1.out.below.size)
  have HMu2 := Lib.hid (Mor.trans' HMu1.out hm)
  have HSu2 := Lib.hid (show Mor u1 u2 from hm)
  clear hm hr3 hl3 hn3
  go_wp2_with fail
  refine (HWi.out _).mono ?_
  rintro e wW ⟨rfl, rfl⟩
  go_wp2_with fail
  refine (pay_new (some ⟨gP, 0, none⟩) n2 (n2 + 3) xa p _ (HP2.out.mor (Mor.alloc HMu2.out)) HN2.out (fun h => by cases h) (LM.out _ (by omega))).mono ?_
  rintro e u3 ⟨U4, m4, c4, ec, e3, os4, rfl, hr4, hl4, hn4, hm⟩
  have HR4 := Lib.hid hr4
  have HL4 := Lib.hid hl4
  have HW4 := Lib.hid (Nw.mono hn4 ((Mor.alloc HMu2.out).below.size))
  have HMu3 := Lib.hid (Mor.trans' (Mor.alloc HMu2.out) hm)
  have HSu3 := Lib.hid (show Mor u2 u3 from (Mor.alloc (Mor.refl u2)).trans' hm)
  clear hm hr4 hl4 hn4
  go_wp2_with fail
  refine (ages_new (some ⟨gP, 0, none⟩) n2 (n2 + 3) xa 9000 _ 2 2 [5, 50] _ (HP2.out.mor (HMu3.out.alloc)) HN2.out (LM.out _ (by omega)) (Ri.of_row (row_lit [5, 50] (by simp) rfl)) rfl (LM.out _ (by omega))).mono ?_
  rintro e u4 ⟨U5, m5, c5, e4, os5, rfl, hr5, hl5, hn5, hm⟩
  have HR5 := Lib.hid hr5
  have HL5 := Lib.hid hl5
  have HW5 := Lib.hid (Nw.mono hn5 (Mor.alloc HMu3.out).below.size)
  have HMu4 := Lib.hid (Mor.trans' HMu3.out.alloc hm)
  have HSu4 := Lib.hid (show Mor u3 u4 from (Mor.alloc (Mor.refl u3)).trans' hm)
  clear hm hr5 hl5 hn5
  go_wp2_with fail
  refine (tie_new (some ⟨gP, 0, none⟩) n2 (n2 + 3) xa (some ⟨gQ, 0, none⟩) n3 (n3 + 3) xb 30 _ (HP2.out.mor HMu4.out) (HP3.out.mor HMu4.out) HN2.out HN3.out (LM.out _ (by omega)) (LM.out _ (by omega))).mono ?_
  rintro e u5 ⟨U6, m6, c6, e5, os6, rfl, hr6, hl6, hn6, hm⟩
  have HR6 := Lib.hid hr6
  have HL6 := Lib.hid hl6
  have HW6 := Lib.hid (Nw.mono hn6 HMu4.out.below.size)
  have HMu5 := Lib.hid (Mor.trans' HMu4.out hm)
  have HSu5 := Lib.hid (show Mor u4 u5 from hm)
  clear hm hr6 hl6 hn6
  go_wp2_with fail
  refine (HDy.out _).mono ?_
  rintro e wW ⟨rfl, rfl⟩
  go_wp2_with fail
  refine (due_new (some ⟨gL, 0, none⟩) n4 (n4 + 3) ps dd _ (HP4.out.mor HMu5.out) HN4.out (by omega) (LM.out _ (by omega)) (HT4.out.mor HMu5.out) D0 (by omega)).mono ?_
  rintro e u6 ⟨X, m7, c7, e7, qs, es, rfl, ho, hm7, h2, hm⟩
  have HOe := Lib.hid ho
  have HO2 := Lib.hid h2
  have HMu6 := Lib.hid (HMu5.out.trans' hm)
  have HSu6 := Lib.hid (show Mor u5 u6 from hm)
  have HWe := Lib.hid HMu5.out.below.size
  clear ho h2 hm
  go_wp2_with fail
  refine (equalG_mv (some ⟨gM, 0, none⟩) A1 n1 (n1 + 3) k1 ms _ (HP1.out.mor HMu6.out) (HI1.out.mor (HM4.out.trans' HMu6.out)) HN1.out (by omega)).mono ?_
  rintro e y1 ⟨rfl, hm⟩
  have HMy1 := Lib.hid (HMu6.out.trans' hm)
  have HSy1 := Lib.hid (show Mor u6 y1 from hm)
  clear hm
  go_wp2_with fail
  refine (marked_mv gM n1 (flat pp ms) 0 (-5) _ (HB1'.out.below HMy1.out.below HB1'.out.lt) (by rw [flat_len pp 2 pp_len, HN1.out]) (by omega)).mono ?_
  rintro e y2 ⟨rfl, hm⟩
  have HMy2 := Lib.hid (HMy1.out.trans' hm)
  have HSy2 := Lib.hid (show Mor y1 y2 from hm)
  clear hm
  go_wp2_with fail
  refine (equalG_it (some ⟨gP, 0, none⟩) A2 n2 (n2 + 3) k2 xa _ (HP2.out.mor HMy2.out) (HI2.out.mor (HM4.out.trans' HMy2.out)) HN2.out (by omega)).mono ?_
  rintro e y3 ⟨rfl, hm⟩
  have HMy3 := Lib.hid (HMy2.out.trans' hm)
  have HSy3 := Lib.hid (show Mor y2 y3 from hm)
  clear hm
  go_wp2_with fail
  refine (equalG_it (some ⟨gQ, 0, none⟩) A3 n3 (n3 + 3) k3 xb _ (HP3.out.mor HMy3.out) (HI3.out.mor (HM4.out.trans' HMy3.out)) HN3.out (by omega)).mono ?_
  rintro e y4 ⟨rfl, hm⟩
  have HMy4 := Lib.hid (HMy3.out.trans' hm)
  have HSy4 := Lib.hid (show Mor y3 y4 from hm)
  clear hm
  obtain ⟨hk0, hk1⟩ := HKc.out _ HMy4.out
  go_wp2_with fail
  clear hk0 hk1
  refine (marked_it gP n2 (flat pp xa) (-5) 0 _ (HB2'.out.below HMy4.out.below HB2'.out.lt) (by rw [flat_len pp 2 pp_len, HN2.out]) (by omega)).mono ?_
  rintro e y5 ⟨rfl, hm⟩
  have HMy5 := Lib.hid (HMy4.out.trans' hm)
  have HSy5 := Lib.hid (show Mor y4 y5 from hm)
  clear hm
  obtain ⟨hk0, hk1⟩ := HKc.out _ HMy5.out
  go_wp2_with fail
  clear hk0 hk1
  refine (marked_it gQ n3 (flat pp xb) (-5) 0 _ (HB3'.out.below HMy5.out.below HB3'.out.lt) (by rw [flat_len pp 2 pp_len, HN3.out]) (by omega)).mono ?_
  rintro e y6 ⟨rfl, hm⟩
  have HMy6 := Lib.hid (HMy5.out.trans' hm)
  have HSy6 := Lib.hid (show Mor y5 y6 from hm)
  clear hm
  go_wp2_with fail
  refine (equalG_pl (some ⟨gL, 0, none⟩) A4 n4 (n4 + 3) k4 ps _ (HP4.out.mor HMy6.out) (HI4.out.mor (HM4.out.trans' HMy6.out)) HN4.out (by omega)).mono ?_
  rintro e y7 ⟨rfl, hm⟩
  have HMy7 := Lib.hid (HMy6.out.trans' hm)
  have HSy7 := Lib.hid (show Mor y6 y7 from hm)
  clear hm
  go_wp2_with fail
  refine (marked_pl gL n4 (flat pl7 ps) { data := #[109, 97, 114, 107] } 0 0 0 0 { data := #[] } { data := #[] } _ (HB4.out.below HMy7.out.below HB4.out.lt) (by rw [flat_len pl7 7 pl7_len, HN4.out]) (by omega)).mono ?_
  rintro e y8 ⟨rfl, hm⟩
  have HMy8 := Lib.hid (HMy7.out.trans' hm)
  have HSy8 := Lib.hid (show Mor y7 y8 from hm)
  clear hm
  have HVy8 := Lib.hid (Mor.refl y8)
  have HUy7 := Lib.hid (show Mor y7 y8 from HSy8.out.trans' (Mor.refl _))
  have HUy6 := Lib.hid (show Mor y6 y8 from HSy7.out.trans' HUy7.out)
  have HUy5 := Lib.hid (show Mor y5 y8 from HSy6.out.trans' HUy6.out)
  have HUy4 := Lib.hid (show Mor y4 y8 from HSy5.out.trans' HUy5.out)
  have HUy3 := Lib.hid (show Mor y3 y8 from HSy4.out.trans' HUy4.out)
  have HUy2 := Lib.hid (show Mor y2 y8 from HSy3.out.trans' HUy3.out)
  have HUy1 := Lib.hid (show Mor y1 y8 from HSy2.out.trans' HUy2.out)
  have HUu6 := Lib.hid (show Mor u6 y8 from HSy1.out.trans' HUy1.out)
  have HUu5 := Lib.hid (show Mor u5 y8 from HSu6.out.trans' HUu6.out)
  have HUu4 := Lib.hid (show Mor u4 y8 from HSu5.out.trans' HUu5.out)
  have HUu3 := Lib.hid (show Mor u3 y8 from HSu4.out.trans' HUu4.out)
  have HUu2 := Lib.hid (show Mor u2 y8 from HSu3.out.trans' HUu3.out)
  have HUu1 := Lib.hid (show Mor u1 y8 from HSu2.out.trans' HUu2.out)
  have HR1' := Lib.hid (show Ri y8 U1 os1 from HR1.out.mor HUu1.out)
  go_wp2_with fail
  refine (clone_any U1 m1 c1 os1 _ (HR1'.out.mor HVy8.out) HL1.out HW1.out.1 HW1.out.2.2).mono ?_
  rintro e z1 ⟨v1, rfl, ho, hm⟩
  obtain ⟨D1, d1, rfl, -, -, -⟩ := own_shape ho
  have HD1 := Lib.hid (show Ri z1 D1 os1 from own_ri ho)
  have HE1 := Lib.hid (Nw.mono (Nw.own ho HW1.out.2.2) HVy8.out.below.size)
  have HVz1 := Lib.hid (HVy8.out.trans' hm)
  have HSz1 := Lib.hid (show Mor y8 z1 from hm)
  clear ho hm HR1
  have HR2' := Lib.hid (show Pi y8 U2 os2 from HR2.out.mor HUu1.out)
  go_wp2_with fail
  refine (clone_lot U2 m2 c2 os2 _ (HR2'.out.mor HVz1.out) HL2.out HW2.out.1 HW2.out.2.2).mono ?_
  rintro e z2 ⟨v2, rfl, ho, hm⟩
  obtain ⟨D2, d2, rfl, -, -, -⟩ := own_shape ho
  have HD2 := Lib.hid (show Pi z2 D2 os2 from own_pi ho)
  have HE2 := Lib.hid (Nw.mono (Nw.own ho HW2.out.2.2) HVz1.out.below.size)
  have HVz2 := Lib.hid (HVz1.out.trans' hm)
  have HSz2 := Lib.hid (show Mor z1 z2 from hm)
  clear ho hm HR2
  have HR3' := Lib.hid (show Ri y8 U3 os3 from HR3.out.mor HUu2.out)
  go_wp2_with fail
  refine (clone_any U3 m3 c3 os3 _ (HR3'.out.mor HVz2.out) HL3.out HW3.out.1 HW3.out.2.2).mono ?_
  rintro e z3 ⟨v3, rfl, ho, hm⟩
  obtain ⟨D3, d3, rfl, -, -, -⟩ := own_shape ho
  have HD3 := Lib.hid (show Ri z3 D3 os3 from own_ri ho)
  have HE3 := Lib.hid (Nw.mono (Nw.own ho HW3.out.2.2) HVz2.out.below.size)
  have HVz3 := Lib.hid (HVz2.out.trans' hm)
  have HSz3 := Lib.hid (show Mor z2 z3 from hm)
  clear ho hm HR3
  have HR4' := Lib.hid (show Pi y8 U4 os4 from HR4.out.mor HUu3.out)
  go_wp2_with fail
  refine (clone_it U4 m4 c4 os4 _ (HR4'.out.mor HVz3.out) HL4.out HW4.out.1 HW4.out.2.2).mono ?_
  rintro e z4 ⟨v4, rfl, ho, hm⟩
  obtain ⟨D4, d4, rfl, -, -, -⟩ := own_shape ho
  have HD4 := Lib.hid (show Pi z4 D4 os4 from own_pi ho)
  have HE4 := Lib.hid (Nw.mono (Nw.own ho HW4.out.2.2) HVz3.out.below.size)
  have HVz4 := Lib.hid (HVz3.out.trans' hm)
  have HSz4 := Lib.hid (show Mor z3 z4 from hm)
  clear ho hm HR4
  have HR5' := Lib.hid (show Ri y8 U5 os5 from HR5.out.mor HUu4.out)
  go_wp2_with fail
  refine (clone_any U5 m5 c5 os5 _ (HR5'.out.mor HVz4.out) HL5.out HW5.out.1 HW5.out.2.2).mono ?_
  rintro e z5 ⟨v5, rfl, ho, hm⟩
  obtain ⟨D5, d5, rfl, -, -, -⟩ := own_shape ho
  have HD5 := Lib.hid (show Ri z5 D5 os5 from own_ri ho)
  have HE5 := Lib.hid (Nw.mono (Nw.own ho HW5.out.2.2) HVz4.out.below.size)
  have HVz5 := Lib.hid (HVz4.out.trans' hm)
  have HSz5 := Lib.hid (show Mor z4 z5 from hm)
  clear ho hm HR5
  have HR6' := Lib.hid (show Ri y8 U6 os6 from HR6.out.mor HUu5.out)
  go_wp2_with fail
  refine (clone_any U6 m6 c6 os6 _ (HR6'.out.mor HVz5.out) HL6.out HW6.out.1 HW6.out.2.2).mono ?_
  rintro e z6 ⟨v6, rfl, ho, hm⟩
  obtain ⟨D6, d6, rfl, -, -, -⟩ := own_shape ho
  have HD6 := Lib.hid (show Ri z6 D6 os6 from own_ri ho)
  have HE6 := Lib.hid (Nw.mono (Nw.own ho HW6.out.2.2) HVz5.out.below.size)
  have HVz6 := Lib.hid (HVz5.out.trans' hm)
  have HSz6 := Lib.hid (show Mor z5 z6 from hm)
  clear ho hm HR6
  obtain ⟨i0, hi0, hz0, hz1, hz2⟩ := info_parts info_lns
  go_wp2_with fail
  go_loopw [39, 172] (fun v i wr => ∃ k : Nat, k ≤ m7 ∧ i = .int .i64 k ∧ (∃ A' c', v = .slice A' k c') ∧ Hid (∃ sn : List Sn, sn.length = k ∧ wr.ownsRow z6.heap.size 82 1 v k (sn.map Sn.v) ∧ (∀ j, j < k → OwnSn wr z6.heap.size (nth sn j) ∧ (nth sn j).xs = (ne es j).ls ∧ (nth sn j).n = 2)) ∧ Hid (Mor z6 wr)) (fun _ i _ => m7 - (intOf i).toNat)
  case atStart => exact ⟨0, by omega, rfl, ⟨none, 0, rfl⟩, Lib.hid ⟨[], rfl, World.ownsRow_nil _ _ _ _, fun j hj => absurd hj (Nat.not_lt_zero _)⟩, Lib.hid (Mor.refl _)⟩
  case round =>
    obtain ⟨k, hk, rfl, ⟨A', c', rfl⟩, HQ, HMq⟩ := hrel
    by_cases hlt : k < m7
    · have hki : (k : Int) < (m7 : Int) := by omega
      have hk0 : (0 : Int) ≤ (k : Int) := by omega
      have HOk := Lib.hid ((HOe.out.mor (HUu6.out.trans' (HVz6.out.trans' HMq.out))))
      obtain ⟨gX, kX, hX, hgB, hgl, f0, f1, f2⟩ := own_ent HOk.out.row HOk.out.own.ql k hlt
      injection hX with hX1 _ hX3
      subst hX1 hX3
      have hEk := HOk.out.own.ent k hlt
      have hrow := hEk.row
      have hlen := hEk.len
      rw [HO2.out k hlt] at hrow hlen f2
      obtain ⟨xL, hxL⟩ := own_some hrow (by omega)
      rw [hxL] at hrow f2
      have HSi := Lib.hid (own_si hrow)
      have HLn := Lib.hid hlen
      generalize (qe qs k).c = qc at *
      generalize (qe qs k).key = qk at *
      generalize (qe qs k).day = qd at *
      clear hEk hrow hlen hxL
      go_wp2_with fail
      refine (clone_ln xL 2 qc (ne es k).ls _ (HSi.out.mor (Mor.refl _).alloc) HLn.out (by omega)).mono ?_
      rintro e wf ⟨vf, rfl, hof, hmf⟩
      obtain ⟨Af, cf, rfl, hcf, -, -⟩ := own_shape hof
      have HMf := Lib.hid (((Mor.refl wr).alloc).trans' hmf)
      have HOf := Lib.hid (own_base hof (show z6.heap.size ≤ _ by have := HMq.out.below.size; rw [szAl]; omega))
      have HYf := Lib.hid (HMq.out.trans' HMf.out)
      clear hof hmf f0 f1 f2 hgl hgB
      obtain ⟨sn, hq1, hq2, hq3⟩ := HQ.out
      have HQ2 := Lib.hid hq2
      have HQ3 := Lib.hid hq3
      have HQ1 := Lib.hid hq1
      clear HQ hq2 hq3 hq1
      go_wp2_with (at_builtin; refine wpList_append_own _ rfl _ _ 81 rfl z6.heap.size 82 i0 (.slice none 0 0) 1 24 Tryd.underlying81 hi0 hz0 hz1 hz2 rfl (by decide) _ _ _ rfl ((own_mor HQ2.out HMf.out).alloc _) ⟨wf.heap.size, 0, none⟩ 1 1 [.slice Af 2 cf] rfl rfl ?_ ?_ ?_ ?_ ?_ ?_)
      · exact lit_at [.slice Af 2 cf] _ _ rfl rfl
      · intro u hu; simp at hu; subst hu; rfl
      · unfold maxLen; omega
      · omega
      · have := HYf.out.below.size; simp; omega
      · intro v5 w5 hown hgrow _
        have hold : (wf.alloc (.cells #[.slice Af 2 cf] 82)).ownsRow z6.heap.size 82 1 (.slice A' k c') k (sn.map Sn.v) := (own_mor HQ2.out HMf.out).alloc _
        have HM5 := Lib.hid (own_step hold (HYf.out.trans' (Mor.refl _).alloc) hgrow)
        have HR5 := Lib.hid (show w5.ownsRow z6.heap.size 82 1 v5 (k + 1) ((sn ++ [Sn.mk Af 2 cf (ne es k).ls]).map Sn.v) by rw [List.map_append]; exact hown)
        have HX5 := Lib.hid (show ∀ j, j < k + 1 → OwnSn w5 z6.heap.size (nth (sn ++ [Sn.mk Af 2 cf (ne es k).ls]) j) ∧ (nth (sn ++ [Sn.mk Af 2 cf (ne es k).ls]) j).xs = (ne es j).ls ∧ (nth (sn ++ [Sn.mk Af 2 cf (ne es k).ls]) j).n = 2 from by
          intro j hj
          have hq1 := HQ1.out
          by_cases hjk : j < k
          · have e : nth (sn ++ [Sn.mk Af 2 cf (ne es k).ls]) j = nth sn j := by
              unfold nth; rw [List.getD_eq_getElem?_getD, List.getD_eq_getElem?_getD, List.getElem?_append_left (by omega)]
            rw [e]
            obtain ⟨t1, t2, t3⟩ := HQ3.out j hjk
            exact ⟨own_grows ((own_mor t1 HMf.out).alloc _) hold hgrow (by decide), t2, t3⟩
          · obtain rfl : j = k := by omega
            have e : nth (sn ++ [Sn.mk Af 2 cf (ne es j).ls]) j = Sn.mk Af 2 cf (ne es j).ls := by
              unfold nth; rw [List.getD_eq_getElem?_getD, List.getElem?_append_right (by omega)]; simp [hq1]
            rw [e]
            refine ⟨?_, rfl, rfl⟩
            exact own_grows (HOf.out.alloc _) hold hgrow (by decide))
        obtain ⟨A5, c5, rfl, -, -, -⟩ := own_shape hown
        clear hown hgrow hold
        go_wp2
        go_roundw
        case rel => exact ⟨k + 1, by omega, by go_num, ⟨_, _, rfl⟩, Lib.hid ⟨_, by simp [HQ1.out], HR5.out, HX5.out⟩, HM5⟩
        case measure => simp [intOf]; omega
    · obtain rfl : k = m7 := by omega
      obtain ⟨wB, rfl⟩ : ∃ wB, wB = wr := ⟨_, rfl⟩
      obtain ⟨sn, hq1, hq2, hq3⟩ := HQ.out
      have HQ1 := Lib.hid hq1
      have HQ2 := Lib.hid hq2
      have HQ3 := Lib.hid hq3
      clear HQ hq1 hq2 hq3
      have HWB := Lib.hid (show Mor w4 wB from HMy8.out.trans' (HVz6.out.trans' HMq.out))
      have HZM0 := Lib.hid (show Blk wB gM 55 (room3 (flat pp ms) [.int .i64 0, .int .i64 (-5)]).toArray from HB1'.out.below HWB.out.below HB1'.out.lt)
      have HZP0 := Lib.hid (show Blk wB gP 52 (room3 (flat pp xa) [.int .i64 (-5), .int .i64 0]).toArray from HB2'.out.below HWB.out.below HB2'.out.lt)
      have HZQ0 := Lib.hid (show Blk wB gQ 52 (room3 (flat pp xb) [.int .i64 (-5), .int .i64 0]).toArray from HB3'.out.below HWB.out.below HB3'.out.lt)
      have HZL0 := Lib.hid (show Blk wB gL 59 (room3 (flat pl7 ps) [.string { data := #[109, 97, 114, 107] }, .int .i64 0, .int .i64 0, .int .i64 0, .int .i64 0, .string { data := #[] }, .string { data := #[] }]).toArray from HB4.out.below HWB.out.below HB4.out.lt)
      obtain ⟨og1, og2, og3, og4⟩ := HO4.out
      go_wp2_with fail
      refine (spoil_mv gM n1 (n1 + 3) _ 0 0 _ HZM0.out (by rw [List.size_toArray, room3_len, flat_len pp 2 pp_len, HN1.out]; simp; omega) (by omega) (LM.out _ (by omega))).mono ?_
      rintro e s1 ⟨rfl, hg⟩
      have HZP1 := Lib.hid (show Blk s1 gP 52 (room3 (flat pp xa) [.int .i64 (-5), .int .i64 0]).toArray from (hg.block gP HZP0.out.lt (by intro e; injection e with e; omega)).trans HZP0.out)
      have HZQ1 := Lib.hid (show Blk s1 gQ 52 (room3 (flat pp xb) [.int .i64 (-5), .int .i64 0]).toArray from (hg.block gQ HZQ0.out.lt (by intro e; injection e with e; omega)).trans HZQ0.out)
      have HZL1 := Lib.hid (show Blk s1 gL 59 (room3 (flat pl7 ps) [.string { data := #[109, 97, 114, 107] }, .int .i64 0, .int .i64 0, .int .i64 0, .int .i64 0, .string { data := #[] }, .string { data := #[] }]).toArray from (hg.block gL HZL0.out.lt (by intro e; injection e with e; omega)).trans HZL0.out)
      have HBu1 := Lib.hid (show But (fun b => b = gM ∨ b = gP ∨ b = gQ ∨ b = gL) wB s1 from But.grown (But.refl _ wB) hg (fun b hb _ => (.inl (by injection hb with hb; exact hb.symm))))
      clear hg
      go_wp2_with fail
      refine (spoil_it gP n2 (n2 + 3) _ 0 5 _ HZP1.out (by rw [List.size_toArray, room3_len, flat_len pp 2 pp_len, HN2.out]; simp; omega) (by omega) (LM.out _ (by omega))).mono ?_
      rintro e s2 ⟨rfl, hg⟩
      have HZQ2 := Lib.hid (show Blk s2 gQ 52 (room3 (flat pp xb) [.int .i64 (-5), .int .i64 0]).toArray from (hg.block gQ HZQ1.out.lt (by intro e; injection e with e; omega)).trans HZQ1.out)
      have HZL2 := Lib.hid (show Blk s2 gL 59 (room3 (flat pl7 ps) [.string { data := #[109, 97, 114, 107] }, .int .i64 0, .int .i64 0, .int .i64 0, .int .i64 0, .string { data := #[] }, .string { data := #[] }]).toArray from (hg.block gL HZL1.out.lt (by intro e; injection e with e; omega)).trans HZL1.out)
      have HBu2 := Lib.hid (show But (fun b => b = gM ∨ b = gP ∨ b = gQ ∨ b = gL) wB s2 from But.grown HBu1.out hg (fun b hb _ => (.inr (.inl (by injection hb with hb; exact hb.symm)))))
      clear hg
      go_wp2_with fail
      refine (spoil_it gQ n3 (n3 + 3) _ 0 6 _ HZQ2.out (by rw [List.size_toArray, room3_len, flat_len pp 2 pp_len, HN3.out]; simp; omega) (by omega) (LM.out _ (by omega))).mono ?_
      rintro e s3 ⟨rfl, hg⟩
      have HZL3 := Lib.hid (show Blk s3 gL 59 (room3 (flat pl7 ps) [.string { data := #[109, 97, 114, 107] }, .int .i64 0, .int .i64 0, .int .i64 0, .int .i64 0, .string { data := #[] }, .string { data := #[] }]).toArray from (hg.block gL HZL2.out.lt (by intro e; injection e with e; omega)).trans HZL2.out)
      have HBu3 := Lib.hid (show But (fun b => b = gM ∨ b = gP ∨ b = gQ ∨ b = gL) wB s3 from But.grown HBu2.out hg (fun b hb _ => (.inr (.inr (.inl (by injection hb with hb; exact hb.symm))))))
      clear hg
      go_wp2_with fail
      refine (spoil_pl gL n4 (n4 + 3) _ { data := #[] } 0 0 0 0 { data := #[] } { data := #[] } _ HZL3.out (by rw [List.size_toArray, room3_len, flat_len pl7 7 pl7_len, HN4.out]; simp; omega) (by omega) (LM.out _ (by omega))).mono ?_
      rintro e s4 ⟨rfl, hg⟩
      have HBu4 := Lib.hid (show But (fun b => b = gM ∨ b = gP ∨ b = gQ ∨ b = gL) wB s4 from But.grown HBu3.out hg (fun b hb _ => (.inr (.inr (.inr (by injection hb with hb; exact hb.symm))))))
      clear hg
      have HPl := Lib.hid (show ∀ b, w4.heap.size ≤ b → ¬ (b = gM ∨ b = gP ∨ b = gQ ∨ b = gL) from fun b hb h => by omega)
      clear og1 og2 og3 og4
      have HLe := Lib.hid (show w4.heap.size ≤ y8.heap.size from HMy8.out.below.size)
      have HYB := Lib.hid (show Mor y8 wB from HVz6.out.trans' HMq.out)
      have HzB := Lib.hid (Mor.refl wB)
      have HZB6 := Lib.hid (show Mor z6 wB from HMq.out)
      have HZB5 := Lib.hid (show Mor z5 wB from (HSz6.out).trans' HZB6.out)
      have HZB4 := Lib.hid (show Mor z4 wB from (HSz5.out).trans' HZB5.out)
      have HZB3 := Lib.hid (show Mor z3 wB from (HSz4.out).trans' HZB4.out)
      have HZB2 := Lib.hid (show Mor z2 wB from (HSz3.out).trans' HZB3.out)
      have HZB1 := Lib.hid (show Mor z1 wB from (HSz2.out).trans' HZB2.out)
      have HRs1 := Lib.hid (show Ri s4 U1 os1 from Ri.but (HR1'.out.mor HYB.out) HBu4.out (fun x hx => HPl.out _ (HW1.out.2.1 x hx)))
      have HDs1 := Lib.hid (show Ri s4 D1 os1 from Ri.but (HD1.out.mor HZB1.out) HBu4.out (fun x hx => HPl.out _ (Nat.le_trans HLe.out (HE1.out.2.1 x hx))))
      have HRs2 := Lib.hid (show Pi s4 U2 os2 from Pi.but (HR2'.out.mor HYB.out) HBu4.out (fun x hx => HPl.out _ (HW2.out.2.1 x hx)))
      have HDs2 := Lib.hid (show Pi s4 D2 os2 from Pi.but (HD2.out.mor HZB2.out) HBu4.out (fun x hx => HPl.out _ (Nat.le_trans HLe.out (HE2.out.2.1 x hx))))
      have HRs3 := Lib.hid (show Ri s4 U3 os3 from Ri.but (HR3'.out.mor HYB.out) HBu4.out (fun x hx => HPl.out _ (HW3.out.2.1 x hx)))
      have HDs3 := Lib.hid (show Ri s4 D3 os3 from Ri.but (HD3.out.mor HZB3.out) HBu4.out (fun x hx => HPl.out _ (Nat.le_trans HLe.out (HE3.out.2.1 x hx))))
      have HRs4 := Lib.hid (show Pi s4 U4 os4 from Pi.but (HR4'.out.mor HYB.out) HBu4.out (fun x hx => HPl.out _ (HW4.out.2.1 x hx)))
      have HDs4 := Lib.hid (show Pi s4 D4 os4 from Pi.but (HD4.out.mor HZB4.out) HBu4.out (fun x hx => HPl.out _ (Nat.le_trans HLe.out (HE4.out.2.1 x hx))))
      have HRs5 := Lib.hid (show Ri s4 U5 os5 from Ri.but (HR5'.out.mor HYB.out) HBu4.out (fun x hx => HPl.out _ (HW5.out.2.1 x hx)))
      have HDs5 := Lib.hid (show Ri s4 D5 os5 from Ri.but (HD5.out.mor HZB5.out) HBu4.out (fun x hx => HPl.out _ (Nat.le_trans HLe.out (HE5.out.2.1 x hx))))
      have HRs6 := Lib.hid (show Ri s4 U6 os6 from Ri.but (HR6'.out.mor HYB.out) HBu4.out (fun x hx => HPl.out _ (HW6.out.2.1 x hx)))
      have HDs6 := Lib.hid (show Ri s4 D6 os6 from Ri.but (HD6.out.mor HZB6.out) HBu4.out (fun x hx => HPl.out _ (Nat.le_trans HLe.out (HE6.out.2.1 x hx))))
      have HMt0 := Lib.hid (Mor.refl s4)
      have hn := HW1.out.2.2
      go_wp2_with fail
      refine (equal_ri2 U1 D1 m1 c1 d1 os1 _ (HRs1.out.mor HMt0.out) (HDs1.out.mor HMt0.out) HL1.out (by omega)).mono ?_
      rintro e t1 ⟨rfl, hm⟩
      have HMt1 := Lib.hid (HMt0.out.trans' hm)
      clear hm hn
      have hn := HW2.out.2.2
      go_wp2_with fail
      refine (equalG_lot U2 D2 m2 c2 d2 os2 _ (HRs2.out.mor HMt1.out) (HDs2.out.mor HMt1.out) HL2.out (by omega)).mono ?_
      rintro e t2 ⟨rfl, hm⟩
      have HMt2 := Lib.hid (HMt1.out.trans' hm)
      clear hm hn
      have hn := HW3.out.2.2
      go_wp2_with fail
      refine (equal_ri2 U3 D3 m3 c3 d3 os3 _ (HRs3.out.mor HMt2.out) (HDs3.out.mor HMt2.out) HL3.out (by omega)).mono ?_
      rintro e t3 ⟨rfl, hm⟩
      have HMt3 := Lib.hid (HMt2.out.trans' hm)
      clear hm hn
      have hn := HW4.out.2.2
      go_wp2_with fail
      refine (equalG_it U4 D4 m4 c4 d4 os4 _ (HRs4.out.mor HMt3.out) (HDs4.out.mor HMt3.out) HL4.out (by omega)).mono ?_
      rintro e t4 ⟨rfl, hm⟩
      have HMt4 := Lib.hid (HMt3.out.trans' hm)
      clear hm hn
      have hn := HW5.out.2.2
      go_wp2_with fail
      refine (equal_ri2 U5 D5 m5 c5 d5 os5 _ (HRs5.out.mor HMt4.out) (HDs5.out.mor HMt4.out) HL5.out (by omega)).mono ?_
      rintro e t5 ⟨rfl, hm⟩
      have HMt5 := Lib.hid (HMt4.out.trans' hm)
      clear hm hn
      have hn := HW6.out.2.2
      go_wp2_with fail
      refine (equal_ri2 U6 D6 m6 c6 d6 os6 _ (HRs6.out.mor HMt5.out) (HDs6.out.mor HMt5.out) HL6.out (by omega)).mono ?_
      rintro e t6 ⟨rfl, hm⟩
      have HMt6 := Lib.hid (HMt5.out.trans' hm)
      clear hm hn
      have HTE := Lib.hid (show ∀ b, w4.heap.size ≤ b → b < wB.heap.size → t6.heap[b]? = wB.heap[b]? from fun b h1 h2 =>
        (HMt6.out.below.block b (Nat.lt_of_lt_of_le h2 HBu4.out.size)).trans (HBu4.out.block b h2 (HPl.out b h1)))
      have HOB := Lib.hid (HOe.out.mor (HUu6.out.trans' HYB.out))
      have HRow := Lib.hid (own_mor (own_but HOB.out.row HBu4.out (fun b hb => HPl.out b (Nat.le_trans HWe.out (World.ownsRow.lt HOB.out.row b hb).1))) HMt6.out)
      have HLin := Lib.hid (fun i (hi : i < k) => own_mor (own_but (HOB.out.own.ent i hi).row HBu4.out (fun b hb => HPl.out b (Nat.le_trans HWe.out (World.ownsRow.lt (HOB.out.own.ent i hi).row b hb).1))) HMt6.out)
      have HLlt := Lib.hid (fun i (hi : i < k) b (hb : (ql (qe qs i)).ownBlock = some b) => show b < z6.heap.size by
        have h1 := (World.ownsRow.lt (HOe.out.own.ent i hi).row b hb).2
        have h2 := HUu6.out.below.size
        have h3 := HVz6.out.below.size
        omega)
      have HSn := Lib.hid (own_mor (own_but HQ2.out HBu4.out (fun b hb => HPl.out b (by
        have h1 := (World.ownsRow.lt HQ2.out b hb).1
        have h2 := HVz6.out.below.size
        have h3 := HLe.out
        omega))) HMt6.out)
      have HSx := Lib.hid (fun i (hi : i < k) => show OwnSn t6 z6.heap.size (nth sn i) from own_mor (own_but (HQ3.out i hi).1 HBu4.out (fun b hb => HPl.out b (by
        have h1 := (World.ownsRow.lt (HQ3.out i hi).1 b hb).1
        have h2 := HVz6.out.below.size
        have h3 := HLe.out
        omega))) HMt6.out)
      have HInc := Lib.hid HOe.out.inc
      have HQl := Lib.hid HOe.out.own.ql
      have HLe2 := Lib.hid (fun i (hi : i < k) => (HOe.out.own.ent i hi).len)
      have HEnd := Lib.hid (show But (fun b => b = gM ∨ b = gP ∨ b = gQ ∨ b = gL) w4 t6 from (But.pre HWB.out HBu4.out).mor HMt6.out)
      clear HTE
      go_wp2_with fail
      go_loopw [231] (fun i wr => ∃ r : Nat, r ≤ k ∧ i = .int .i64 r ∧ Hid (But (Lk (fun _ => False) qs r) t6 wr)) (fun i _ => k - (intOf i).toNat)
      case atStart => exact ⟨0, by omega, rfl, Lib.hid (But.refl _ _)⟩
      case round =>
        obtain ⟨r, hr, rfl, HB⟩ := hrel
        by_cases hlt : r < k
        · have hki : (r : Int) < (k : Int) := by omega
          have hk0 : (0 : Int) ≤ (r : Int) := by omega
          have hrw := own_but HRow.out HB.out (fun b hb hp => by
            rcases hp with h | ⟨j, hj, e⟩
            · exact h
            · obtain ⟨_, _, cur, hc⟩ := own_blk HRow.out hb
              obtain ⟨_, _, cur2, hc2⟩ := own_blk (HLin.out j (by omega)) e
              rw [hc] at hc2
              injection hc2 with hc2
              injection hc2 with _ hc2 _
              exact absurd hc2 (by decide))
          obtain ⟨gX, kX, hX, hgB, hgl, f0, f1, f2⟩ := own_ent hrw HQl.out r hlt
          injection hX with hX1 _ hX3
          subst hX1 hX3
          have hsw := own_but HSn.out HB.out (fun b hb hp => by
            rcases hp with h | ⟨j, hj, e⟩
            · exact h
            · have h1 := HLlt.out j (by omega) b e
              have h2 := (World.ownsRow.lt HSn.out b hb).1
              omega)
          obtain ⟨gS, kS, hS, hgB2, hgl2, d0⟩ := own_sn hsw HQ1.out hlt
          injection hS with hS1 _ hS3
          subst hS1 hS3
          have hln := own_but (HLin.out r hlt) HB.out (fun b hb hp => by
            rcases hp with h | ⟨j, hj, e⟩
            · exact h
            · have := HInc.out r hlt j hj b b e hb
              omega)
          have hsx : OwnSn wr z6.heap.size (nth sn r) := own_but (HSx.out r hlt) HB.out (fun b hb hp => by
            rcases hp with h | ⟨j, hj, e⟩
            · exact h
            · have h1 := HLlt.out j (by omega) b e
              have h2 := (World.ownsRow.lt (HSx.out r hlt) b hb).1
              omega)
          obtain ⟨-, hs2, hs3⟩ := HQ3.out r hlt
          have hn2 := HO2.out r hlt
          have hlen := HLe2.out r hlt
          have HNx := Lib.hid (fun (w' w'' : World) (h : Mor wr w') (hg : w'.grownBy w'' (ql (qe qs r)).ownBlock) => show But (Lk (fun _ => False) qs (r + 1)) t6 w'' from ((HB.out.mono Lk.up).mor h).grown hg (fun b hb _ => .inr ⟨r, by omega, hb⟩))
          rw [hn2] at hln hlen f2
          have HLn := Lib.hid hln
          have HSi := Lib.hid (own_si hln)
          have HSs := Lib.hid (show Si wr (nth sn r).A (ne es r).ls by rw [← hs2]; exact own_si hsx)
          have HLn2 := Lib.hid hlen
          unfold ql at HNx
          rw [hn2] at HNx
          rw [hs3] at d0
          generalize (qe qs r).A = qA at *
          generalize (qe qs r).c = qc at *
          generalize (qe qs r).key = qk at *
          generalize (qe qs r).day = qd at *
          generalize (nth sn r).A = nA at *
          generalize (nth sn r).c = nc at *
          clear hrw hsw hln hsx hs2 hs3 hn2 hlen hgB hgB2
          have HEk := Lib.hid (fun w' (h : Mor wr w') => equal_ln qA nA 2 qc nc (ne es r).ls w' (HSi.out.mor h) (HSs.out.mor h) HLn2.out (by omega))
          go_wp2_with fail
          go_quiet ((go_at_call 47; exact Calls.quiet_of (HEk.out _ (by repeat (first | exact Mor.refl _ | apply Mor.alloc | apply Mor.more | apply Mor.drewN | apply Mor.drew)))))
          go_wp2_with fail
          refine (spoil_own_ln { data := #[] } 0 (own_mor HLn.out (by repeat (first | exact Mor.refl _ | apply Mor.alloc | apply Mor.more | apply Mor.drewN | apply Mor.drew)))).mono ?_
          rintro e w7 ⟨rfl, hg7⟩
          have HB7 := Lib.hid (HNx.out _ w7 (by repeat (first | exact Mor.refl _ | apply Mor.alloc | apply Mor.more | apply Mor.drewN | apply Mor.drew)) hg7)
          clear hg7
          go_wp2_with fail
          go_roundw
          case rel => exact ⟨r + 1, by omega, by go_num, HB7⟩
          case measure => simp [intOf]; omega
        · obtain rfl : r = k := by omega
          have HZZ := Lib.hid (show Mor w wr from But.toMor (P := fun b => w.heap.size ≤ b) HM4.out ((HEnd.out.mono (fun b hp => by
            have h0 := HGM.out
            have h1 := HO4.out
            omega)).trans' (HB.out.mono (fun b hp => by
            rcases hp with h | ⟨j, hj, e⟩
            · exact absurd h id
            · have h1 := (World.ownsRow.lt (HLin.out j hj) b e).1
              have h2 := HWe.out
              have h3 := HM4.out.below.size
              omega))) (fun b h => h))
          go_wp2_with fail
          go_ret
          exact ⟨rfl, HZZ.out.below⟩

end Go.Proofs.YtahegjhjonodlaaDoor.itemsOwn
