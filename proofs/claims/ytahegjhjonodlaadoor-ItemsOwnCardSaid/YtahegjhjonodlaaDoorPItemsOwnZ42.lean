/- Rows whose room is filled, cell by cell. -/
import Derived.Test.YtahegjhjonodlaaDoorPItemsOwnZ1
import Derived.Test.YtahegjhjonodlaaDoorPItemsOwnZ3
import Derived.Test.YtahegjhjonodlaaDoorPItemsOwnZ4
import Derived.Test.YtahegjhjonodlaaDoorPItemsOwnZ5
import Derived.Test.YtahegjhjonodlaaDoorPItemsOwnZ6
import Derived.Test.YtahegjhjonodlaaDoorPItemsOwnZ7
import Derived.Test.YtahegjhjonodlaaDoorPItemsOwnZ15
import Derived.Test.YtahegjhjonodlaaDoorPItemsOwnZ16
import Derived.Test.YtahegjhjonodlaaDoorPItemsOwnZ23
import Derived.Test.YtahegjhjonodlaaDoorPItemsOwnZ24
import Derived.Test.YtahegjhjonodlaaDoorPItemsOwnZ25
import Derived.Test.YtahegjhjonodlaaDoorPItemsOwnZ26
import Derived.Test.YtahegjhjonodlaaDoorPItemsOwnZ27
import Derived.Test.YtahegjhjonodlaaDoorPItemsOwnZ28
import Derived.Test.YtahegjhjonodlaaDoorPItemsOwnZ29
import Derived.Test.YtahegjhjonodlaaDoorPItemsOwnZ30
import Derived.Test.YtahegjhjonodlaaDoorPItemsOwnZ31
import Derived.Test.YtahegjhjonodlaaDoorPItemsOwnZ40
import Derived.Test.YtahegjhjonodlaaDoorPItemsOwnZ41
import Derived.Test.YtahegjhjonodlaaDoorRows
import Derived.BigQuiet
import Derived.DataElems
import Derived.Deep.AppendSrc
import Derived.Deep.DeepAppendRoom
import Derived.Deep.LoopGhost
import Derived.Deep.OwnRows
import Derived.Deep.QuietTactic
import Derived.Deep.RegionLaw
import Derived.Deep.SlicePairs
import Derived.Deep.Slices
import Derived.Deep.Strs
import Derived.Handy
import Derived.Laws.Cover1
import Derived.Lib.Bytealg
import Derived.Lib.Hide
import Derived.Lib.SliceRun
import Derived.Lib.Walk
import Derived.OpenShut
import Derived.Outline
import Derived.OwnWalk
import Derived.PlainAid
import Derived.ProofKit
import Derived.RegionTactic
import Derived.Shelf.Abstract
import Derived.Sort.Walk0
import Derived.WalkKit
import Derived.WalkSpells
namespace Go.Proofs.YtahegjhjonodlaaDoor
open Go.ChangeShapes Go.WideShapes Go.ChangeAt Go.RowKit
set_option linter.unusedVariables false
set_option maxRecDepth 100000

theorem szAl (w : World) (o : Obj) : (w.alloc o).heap.size = w.heap.size + 1 := by show (w.heap.push o).size = _; simp
/-- us stored at b and behind -/
def setL (ds : Array Value) (b : Nat) : List Value → Array Value
  | [] => ds
  | u :: us => setL (ds.setIfInBounds b u) (b + 1) us
theorem setL_size (us : List Value) : ∀ (ds : Array Value) (b : Nat), (setL ds b us).size = ds.size := by
  induction us with
  | nil => intro ds b; rfl
  | cons u us ih => intro ds b; rw [setL, ih, Array.size_setIfInBounds]
theorem setL_get (us : List Value) : ∀ (ds : Array Value) (b j : Nat), b + us.length ≤ ds.size → (setL ds b us)[j]? = if b ≤ j ∧ j < b + us.length then us[j - b]? else ds[j]? := by
  induction us with
  | nil => intro ds b j h; rw [setL, if_neg (by simp)]
  | cons u us ih =>
    intro ds b j h
    simp only [List.length_cons] at h
    rw [setL, ih _ _ _ (by rw [Array.size_setIfInBounds]; omega), Array.getElem?_setIfInBounds]
    simp only [List.length_cons]
    by_cases h1 : b = j
    · subst h1
      rw [if_neg (by omega), if_pos rfl, if_pos (by omega), if_pos (by omega), Nat.sub_self]; rfl
    · rw [if_neg h1]
      by_cases h2 : b + 1 ≤ j ∧ j < b + 1 + us.length
      · rw [if_pos h2, if_pos (by omega), show j - b = (j - (b + 1)) + 1 by omega, List.getElem?_cons_succ]
      · rw [if_neg h2, if_neg (by omega)]
/-- the first m cells of a row are those of tot -/
def Fil (w : World) (g : Nat) (t : TypeId) (tot : List Value) (m : Nat) : Prop := ∃ ds, Blk w g t ds ∧ ds.size = tot.length ∧ ∀ j, j < m → ds[j]? = tot[j]?
theorem Fil.next {ds : Array Value} {tot us : List Value} {m : Nat} (h1 : ds.size = tot.length) (h2 : ∀ j, j < m → ds[j]? = tot[j]?) (hl : m + us.length ≤ tot.length) (hu : ∀ i, i < us.length → tot[m + i]? = us[i]?) :
    (setL ds m us).size = tot.length ∧ ∀ j, j < m + us.length → (setL ds m us)[j]? = tot[j]? := by
  refine ⟨by rw [setL_size, h1], fun j hj => ?_⟩
  rw [setL_get _ _ _ _ (by omega)]
  by_cases h : m ≤ j
  · rw [if_pos ⟨h, hj⟩, ← hu (j - m) (by omega), show m + (j - m) = j by omega]
  · rw [if_neg (by omega), h2 j (by omega)]
theorem Fil.all {w : World} {g : Nat} {t : TypeId} {tot : List Value} {m : Nat} (h : Fil w g t tot m) (hm : m = tot.length) : Blk w g t tot.toArray := by
  obtain ⟨ds, h1, h2, h3⟩ := h
  have : ds = tot.toArray := by
    apply Array.ext_getElem?
    intro i
    by_cases hi : i < m
    · rw [h3 i hi, List.getElem?_toArray]
    · rw [Array.getElem?_eq_none (by omega), Array.getElem?_eq_none (by simp; omega)]
  rw [← this]; exact h1
/-- a row with room of three behind it -/
def room3 (cs us : List Value) : List Value := cs ++ (us ++ (us ++ us))
theorem room3_len (cs us : List Value) : (room3 cs us).length = cs.length + us.length * 3 := by simp [room3]; omega
theorem room3_get (cs us : List Value) {n s : Nat} (hc : cs.length = n * s) (hu : us.length = s) (k i : Nat) (hk : k < 3) (hi : i < s) : (room3 cs us)[(n + k) * s + i]? = us[i]? := by
  unfold room3
  have e : (n + k) * s = n * s + k * s := Nat.add_mul n k s
  rw [List.getElem?_append_right (by omega), hc, show (n + k) * s + i - n * s = k * s + i by omega]
  match k, hk with
  | 0, _ => rw [Nat.zero_mul, Nat.zero_add, List.getElem?_append_left (by omega)]
  | 1, _ => rw [Nat.one_mul, List.getElem?_append_right (by omega), hu, show s + i - s = i by omega, List.getElem?_append_left (by omega)]
  | 2, _ => rw [List.getElem?_append_right (by omega), hu, List.getElem?_append_right (by omega), hu, show 2 * s + i - s - s = i by omega]
theorem room3_old (cs us : List Value) (j : Nat) (h : j < cs.length) : (room3 cs us)[j]? = cs[j]? := by unfold room3; rw [List.getElem?_append_left h]
/-- a row of one's own with room, of s cells each -/
theorem own_fil {w : World} {B g n c s : Nat} {t : TypeId} {cs us : List Value} (h : w.ownsRow B t s (.slice (some ⟨g, 0, none⟩) n c) n cs) (hc : c = n + 3) (hu : us.length = s) : Fil w g t (room3 cs us) (n * s) := by
  subst hc
  obtain ⟨hl, h | ⟨g', cap', cur, hv, hg, hh, h1, h2, h3, h4⟩⟩ := h
  · cases h.1
  · cases hv
    refine ⟨cur, by exact hh, by rw [h3, room3_len, hl, hu, Nat.add_mul, Nat.mul_comm s 3], fun j hj => ?_⟩
    rw [room3_old _ _ _ (by omega), ← h4, List.getElem?_take, if_pos hj, Array.getElem?_toList]
def RoomPost3 (t : TypeId) (w : World) (n : Nat) (cs us : List Value) (e : Ending) (w' : World) : Prop :=
  ∃ g, e = .returned (.slice (some ⟨g, 0, none⟩) n (n + 3)) ∧ w.heap.size ≤ g ∧ Mor w w' ∧ Blk w' g t (room3 cs us).toArray
theorem fil_new {w : World} {t : TypeId} {mk : Array Value} {us : List Value} {s : Nat} (h : mk.size = (0 + 3) * s) (hu : us.length = s) : Fil (w.alloc (.cells mk t)) w.heap.size t (room3 [] us) ((0 + 0) * s) :=
  ⟨mk, Blk.new _ _ _, by rw [room3_len, h, hu]; simp; omega, fun j hj => by simp at hj⟩
theorem blk_at {w : World} {g : Nat} {t : TypeId} {l : List Value} (h : Blk w g t l.toArray) (i : Nat) {u : Value} (hu : l[i]? = some u) : w.cell? ⟨g, i, none⟩ = some u := by
  rw [h.cell, List.getElem?_toArray, hu]

end Go.Proofs.YtahegjhjonodlaaDoor

/- talkeep.roomy, marked, spoil at tallage/api.Item (printed by groom.py). -/
namespace Go.Proofs.YtahegjhjonodlaaDoor
open Go.ChangeShapes Go.WideShapes Go.ChangeAt Go.RowKit
set_option linter.unusedVariables false
set_option maxRecDepth 100000

theorem infoG_it : (Tryd.prog.info? 52).map (fun i => (i.zero, i.size, i.bytes)) = some (some (.agg #[.int .i64 0, .int .i64 0]), 2, 16) := by kernel_rfl
set_option maxHeartbeats 3200000 in
theorem roomy_it (A : Option Addr) (n cap : Nat) (cs : List Value) (z0 : Int) (z1 : Int) (w : World) (hc : ∀ (W : World), Mor w W → ∀ y, A = some y → ∀ j u, cs[j]? = some u → W.cell? (y.add j) = some u) (h1 : ∀ u ∈ cs, u.oneCell' = true) (hn : cs.length = n * 2) (h0 : A = none → n = 0) (hl : n ≤ 8796093022208) :
    Calls Tryd.prog 26 #[.slice A n cap, .agg #[.int .i64 z0, .int .i64 z1]] w (RoomPost3 52 w n cs [.int .i64 z0, .int .i64 z1]) := by
  obtain ⟨i0, hi, hz0, hz1, hz2⟩ := info_parts infoG_it
  have e3 : IntKind.i64.wrap ((n : Int) + 3) = ((n + 3 : Nat) : Int) := by rw [IntKind.wrap_i64]; omega
  have HC := Lib.hid hc
  have HA := Lib.hid h0
  have HCl := Lib.hid hn
  have H1 := Lib.hid h1
  have HX0 := Lib.hid (Blk.new w 52 #[.int .i64 z0, .int .i64 z1])
  have HM0 := Lib.hid ((Mor.refl w).alloc (o := .cells #[.int .i64 z0, .int .i64 z1] 52))
  clear hc hn h0 h1
  have hmk3 : ∀ W : World, (Instr.makeSlice 48 (.int .i64 0) (.int .i64 ((n : Int) + 3))).run Tryd.prog W = .ok (.slice (some ⟨W.heap.size, 0, none⟩) 0 (n + 3)) (W.alloc (.cells (madeCells (Value.cells (.agg #[.int .i64 0, .int .i64 0])) ((n + 3) * 2)) 52)) := by
    intro W
    have hr := run_make (P := Tryd.prog) W 48 52 i0 (.agg #[.int .i64 0, .int .i64 0]) Tryd.underlying48 hi hz0 .i64 .i64 0 ((n + 3 : Nat) : Int) (by omega) (by omega) (by rw [hz2]; omega) (by omega)
    rw [hz1, Int.toNat_natCast, show ((n + 3 : Nat) : Int) = (n : Int) + 3 by omega] at hr
    exact hr
  generalize hZ : madeCells (Value.cells (.agg #[.int .i64 0, .int .i64 0])) ((n + 3) * 2) = mk at hmk3
  have HMl := Lib.hid (show mk.size = (n + 3) * 2 by rw [← hZ, size_madeCells])
  clear hZ
  obtain ⟨bX, hbX⟩ : ∃ bX, bX = w.heap.size := ⟨_, rfl⟩
  have HBX := Lib.hid hbX
  obtain ⟨g, hg⟩ : ∃ g, g = w.heap.size + 1 := ⟨_, rfl⟩
  have HG := Lib.hid (show w.heap.size ≤ g by omega)
  have hgX : g ≠ bX := by omega
  cases A with
  | none =>
    obtain rfl : n = 0 := HA.out rfl
    have hx : cs = [] := List.eq_nil_of_length_eq_zero (by simpa using HCl.out)
    subst hx
    clear HC HA H1
    have hmk4 : ∀ W : World, (Instr.makeSlice 48 (.int .i64 0) (.int .i64 3)).run Tryd.prog W = .ok (.slice (some ⟨W.heap.size, 0, none⟩) 0 3) (W.alloc (.cells mk 52)) := hmk3
    clear hmk3
    go_enter Tryd.func26, Tryd.ntmps26
    go_wp2_with (at_builtin; refine wpList_append_nilc rfl _ _ 48 rfl 52 i0 Tryd.underlying48 hi (w.heap.size + 1) 0 3 cap rfl rfl (by omega) ?_)
    have HF := Lib.hid (show Fil ((w.alloc (.cells #[.int .i64 z0, .int .i64 z1] 52)).alloc (.cells mk 52)) g 52 (room3 [] [.int .i64 z0, .int .i64 z1]) ((0 + 0) * 2) by
      have := fil_new (w := w.alloc (.cells #[.int .i64 z0, .int .i64 z1] 52)) (t := 52) (us := [.int .i64 z0, .int .i64 z1]) (s := 2) (mk := mk) HMl.out rfl
      rw [szAl] at this
      rw [hg]; exact this)
    have HX := Lib.hid (show Blk ((w.alloc (.cells #[.int .i64 z0, .int .i64 z1] 52)).alloc (.cells mk 52)) bX 52 #[.int .i64 z0, .int .i64 z1] by rw [hbX]; exact HX0.out.alloc _)
    have HB2 : Hid (Mor w ((w.alloc (.cells #[.int .i64 z0, .int .i64 z1] 52)).alloc (.cells mk 52))) := Lib.hid (HM0.out.alloc (o := .cells mk 52))
    generalize (w.alloc (.cells #[.int .i64 z0, .int .i64 z1] 52)).alloc (.cells mk 52) = w2 at *
    rw [← hg, ← hbX]
    clear hmk4 HX0 HM0 HMl hg hbX HBX
    go_wp2
    go_loopw [13] (fun i wr => ∃ k : Nat, k ≤ 3 ∧ i = .int .i64 k ∧ Hid (Fil wr g 52 (room3 [] [.int .i64 z0, .int .i64 z1]) ((0 + k) * 2)) ∧ Hid (Blk wr bX 52 #[.int .i64 z0, .int .i64 z1]) ∧ Hid (Mor w wr)) (fun i _ => 3 - (intOf i).toNat)
    case atStart => exact ⟨0, Nat.zero_le _, rfl, HF, HX, HB2⟩
    case round =>
      obtain ⟨k, hk, rfl, HBk, HXk, HMk⟩ := hrel
      by_cases hlt : k < 3
      · have hki : (k : Int) < 3 := by omega
        have hk0 : (0 : Int) ≤ (k : Int) := by omega
        have e4 : IntKind.i64.wrap (k : Int) = (k : Int) := by rw [IntKind.wrap_i64]; omega
        obtain ⟨ds, hds, hsz, hdj⟩ := HBk.out
        have htl : (room3 [] [.int .i64 z0, .int .i64 z1]).length = (0 + 3) * 2 := by rw [room3_len, HCl.out]; simp; try omega
        have hbx : bX < wr.heap.size := HXk.out.lt
        have hgl : g < wr.heap.size := hds.lt
        have x0 : wr.cell? ⟨bX, 0, none⟩ = some (.int .i64 z0) := by rw [HXk.out.cell]; rfl
        have x1 : wr.cell? ⟨bX, 1, none⟩ = some (.int .i64 z1) := by rw [HXk.out.cell]; rfl
        have hf : ∀ o, wr.frozen? ⟨g, o, none⟩ = false := fun o => hds.frozen o
        obtain ⟨y0, c0⟩ := blk_some hds (k * 2) (by omega)
        obtain ⟨y1, c1⟩ := blk_some hds (k * 2 + 1) (by omega)
        have hnx := Fil.next (us := [.int .i64 z0, .int .i64 z1]) hsz hdj (by rw [htl]; simp; try omega) (fun i hi => room3_get [] [.int .i64 z0, .int .i64 z1] HCl.out rfl k i (by omega) (by simpa using hi))
        have HNx := Lib.hid (show (setL ds (k * 2) [.int .i64 z0, .int .i64 z1]).size = (room3 [] [.int .i64 z0, .int .i64 z1]).length ∧ ∀ j, j < (0 + (k + 1)) * 2 → (setL ds (k * 2) [.int .i64 z0, .int .i64 z1])[j]? = (room3 [] [.int .i64 z0, .int .i64 z1])[j]? from by
          have e6 : (0 + k) * 2 = k * 2 := by rw [Nat.zero_add]
          rw [e6] at hnx
          refine ⟨hnx.1, fun j hj => hnx.2 j ?_⟩
          simp only [List.length_cons, List.length_nil]
          omega)
        have hny := HNx.out
        simp only [setL] at hny
        have HNy := Lib.hid hny
        clear HBk HNx
        have HDs := Lib.hid hds
        clear hds hsz hdj hnx hny htl
        go_wp2
        go_region
        go_wp2
        go_roundw
        case rel => exact ⟨k + 1, hlt, by go_num, Lib.hid (show Fil _ g 52 (room3 [] [.int .i64 z0, .int .i64 z1]) ((0 + (k + 1)) * 2) from ⟨_, Blk.drew (Blk.set_ (Blk.set_ HDs.out (k * 2) (.int .i64 z0)) (k * 2 + 1) (.int .i64 z1)), HNy.out⟩), Lib.hid (by exact Blk.drew (blk_off (i := k * 2 + 1) (u := .int .i64 z1) (blk_off (i := k * 2) (u := .int .i64 z0) HXk.out hgX) hgX)), Lib.hid (Mor.drew (Mor.of_below (Below.setCell (p := (⟨g, k * 2 + 1, none⟩ : Addr)) (Below.setCell (p := (⟨g, k * 2, none⟩ : Addr)) HMk.out.below (by exact HG.out) (.int .i64 z0)) (by exact HG.out) (.int .i64 z1))))⟩
        case measure => simp [intOf]; omega
      · obtain rfl : k = 3 := by omega
        have HBf := Lib.hid (show Blk wr g 52 (room3 [] [.int .i64 z0, .int .i64 z1]).toArray from HBk.out.all (by rw [room3_len, HCl.out]; simp; try omega))
        go_wp2
        go_ret
        exact ⟨g, rfl, HG.out, HMk.out, HBf.out⟩
  | some y =>
    have HCy := Lib.hid (fun (W : World) (hW : Mor w W) => HC.out W hW y rfl)
    clear HC HA
    go_enter Tryd.func26, Tryd.ntmps26
    go_wp2_with (at_builtin; refine wpList_append_own_spare _ rfl _ _ 48 rfl (w.heap.size + 1) 52 i0 2 Tryd.underlying48 hi hz1 (w.heap.size + 1) 0 (n + 3) [] rfl ⟨by simp, .inr ⟨w.heap.size + 1, n + 3, mk, rfl, Nat.le_refl _, (by have := heap_alloc_new (w.alloc (.cells #[.int .i64 z0, .int .i64 z1] 52)) (.cells mk 52); rw [szAl] at this; exact this), Nat.zero_le _, by unfold maxLen; omega, HMl.out, by simp⟩⟩ y n cap cs rfl HCl.out ?_ ?_ ?_ ?_)
    · exact fun j u hu => HCy.out _ (HM0.out.alloc) j u hu
    · exact H1.out
    · omega
    · intro w2 hown2 hgrow2
      have HF := Lib.hid (show Fil w2 g 52 (room3 cs [.int .i64 z0, .int .i64 z1]) ((n + 0) * 2) by
        rw [hg]
        exact own_fil (n := n) (c := n + 3) (cs := cs) (s := 2) (by simpa using hown2) rfl rfl)
      have HX := Lib.hid (show Blk w2 bX 52 #[.int .i64 z0, .int .i64 z1] by
        rw [hbX]
        exact (hgrow2.block w.heap.size (by simp; omega) (by intro e; injection e with e; omega)).trans (HX0.out.alloc _))
      have HB2 := Lib.hid (show Mor w w2 from grown_morR (HM0.out.alloc (o := .cells mk 52)) hgrow2 (by omega))
      clear hown2 hgrow2 hmk3
      rw [← hg, ← hbX]
      clear HX0 HM0 HMl hg hbX HBX HCy H1
      go_wp2
      go_loopw [13] (fun i wr => ∃ k : Nat, k ≤ 3 ∧ i = .int .i64 k ∧ Hid (Fil wr g 52 (room3 cs [.int .i64 z0, .int .i64 z1]) ((n + k) * 2)) ∧ Hid (Blk wr bX 52 #[.int .i64 z0, .int .i64 z1]) ∧ Hid (Mor w wr)) (fun i _ => 3 - (intOf i).toNat)
      case atStart => exact ⟨0, Nat.zero_le _, rfl, HF, HX, HB2⟩
      case round =>
        obtain ⟨k, hk, rfl, HBk, HXk, HMk⟩ := hrel
        by_cases hlt : k < 3
        · have hki : (k : Int) < 3 := by omega
          have hk0 : (0 : Int) ≤ (k : Int) := by omega
          obtain ⟨r, hr⟩ : ∃ r : Nat, r = n + k := ⟨_, rfl⟩
          have hrn : r < n + 3 := by omega
          have e4 : IntKind.i64.wrap ((n : Int) + (k : Int)) = (r : Int) := by rw [IntKind.wrap_i64]; omega
          have hr1 : (r : Int) < ((n + 3 : Nat) : Int) := by omega
          have hr0 : (0 : Int) ≤ (r : Int) := by omega
          obtain ⟨ds, hds, hsz, hdj⟩ := HBk.out
          have htl : (room3 cs [.int .i64 z0, .int .i64 z1]).length = (n + 3) * 2 := by rw [room3_len, HCl.out]; simp; try omega
          have hbx : bX < wr.heap.size := HXk.out.lt
          have hgl : g < wr.heap.size := hds.lt
          have x0 : wr.cell? ⟨bX, 0, none⟩ = some (.int .i64 z0) := by rw [HXk.out.cell]; rfl
          have x1 : wr.cell? ⟨bX, 1, none⟩ = some (.int .i64 z1) := by rw [HXk.out.cell]; rfl
          have hf : ∀ o, wr.frozen? ⟨g, o, none⟩ = false := fun o => hds.frozen o
          obtain ⟨y0, c0⟩ := blk_some hds (r * 2) (by omega)
          obtain ⟨y1, c1⟩ := blk_some hds (r * 2 + 1) (by omega)
          have hnx := Fil.next (us := [.int .i64 z0, .int .i64 z1]) hsz hdj (by rw [htl]; simp; try omega) (fun i hi => room3_get cs [.int .i64 z0, .int .i64 z1] HCl.out rfl k i (by omega) (by simpa using hi))
          have HNx := Lib.hid (show (setL ds (r * 2) [.int .i64 z0, .int .i64 z1]).size = (room3 cs [.int .i64 z0, .int .i64 z1]).length ∧ ∀ j, j < (n + (k + 1)) * 2 → (setL ds (r * 2) [.int .i64 z0, .int .i64 z1])[j]? = (room3 cs [.int .i64 z0, .int .i64 z1])[j]? from by
            have e6 : (n + k) * 2 = r * 2 := by rw [hr]
            rw [e6] at hnx
            refine ⟨hnx.1, fun j hj => hnx.2 j ?_⟩
            simp only [List.length_cons, List.length_nil]
            omega)
          have hny := HNx.out
          simp only [setL] at hny
          have HNy := Lib.hid hny
          clear HBk HNx
          have HDs := Lib.hid hds
          clear hds hsz hdj hnx hny htl hr
          go_wp2
          go_region
          go_wp2
          go_roundw
          case rel => exact ⟨k + 1, hlt, by go_num, Lib.hid (show Fil _ g 52 (room3 cs [.int .i64 z0, .int .i64 z1]) ((n + (k + 1)) * 2) from ⟨_, Blk.drew (Blk.set_ (Blk.set_ HDs.out (r * 2) (.int .i64 z0)) (r * 2 + 1) (.int .i64 z1)), HNy.out⟩), Lib.hid (by exact Blk.drew (blk_off (i := r * 2 + 1) (u := .int .i64 z1) (blk_off (i := r * 2) (u := .int .i64 z0) HXk.out hgX) hgX)), Lib.hid (Mor.drew (Mor.of_below (Below.setCell (p := (⟨g, r * 2 + 1, none⟩ : Addr)) (Below.setCell (p := (⟨g, r * 2, none⟩ : Addr)) HMk.out.below (by exact HG.out) (.int .i64 z0)) (by exact HG.out) (.int .i64 z1))))⟩
          case measure => simp [intOf]; omega
        · obtain rfl : k = 3 := by omega
          have HBf := Lib.hid (show Blk wr g 52 (room3 cs [.int .i64 z0, .int .i64 z1]).toArray from HBk.out.all (by rw [room3_len, HCl.out]; simp; try omega))
          go_wp2
          go_ret
          exact ⟨g, rfl, HG.out, HMk.out, HBf.out⟩

set_option maxHeartbeats 3200000 in
theorem marked_it (g n : Nat) (cs : List Value) (z0 : Int) (z1 : Int) (w : World) (h : Blk w g 52 (room3 cs [.int .i64 z0, .int .i64 z1]).toArray) (hn : cs.length = n * 2) (hl : n ≤ 8796093022208) :
    Calls Tryd.prog 37 #[.slice (some ⟨g, 0, none⟩) n (n + 3), .agg #[.int .i64 z0, .int .i64 z1]] w fun e w' => e = .returned (.bool true) ∧ Mor w w' := by
  have HC := Lib.hid (fun (W : World) (hW : Mor w W) (k : Nat) (hk : k < 3) (i : Nat) (hi : i < 2) (u : Value) (hu : ([.int .i64 z0, .int .i64 z1] : List Value)[i]? = some u) => show W.cell? ⟨g, (n + k) * 2 + i, none⟩ = some u from blk_at (h.below hW.below h.lt) _ ((room3_get cs [.int .i64 z0, .int .i64 z1] hn rfl k i hk hi).trans hu))
  have HGl := Lib.hid h.lt
  have HX0 := Lib.hid (Blk.new w 52 #[.int .i64 z0, .int .i64 z1])
  have HM0 := Lib.hid ((Mor.refl w).alloc (o := .cells #[.int .i64 z0, .int .i64 z1] 52))
  clear h hn
  have e3 : n + 3 - n = 3 := by omega
  obtain ⟨bX, hbX⟩ : ∃ bX, bX = w.heap.size := ⟨_, rfl⟩
  go_enter Tryd.func37, Tryd.ntmps37
  go_wp2
  generalize w.alloc (.cells #[.int .i64 z0, .int .i64 z1] 52) = w2 at *
  rw [← hbX] at HX0
  rw [← hbX]
  clear hbX
  go_loopw [14] (fun i wr => ∃ k : Nat, k ≤ 3 ∧ i = .int .i64 k ∧ Hid (Blk wr bX 52 #[.int .i64 z0, .int .i64 z1]) ∧ Hid (Mor w wr)) (fun i _ => 3 - (intOf i).toNat)
  case atStart => exact ⟨0, Nat.zero_le _, rfl, HX0, HM0⟩
  case round =>
    obtain ⟨k, hk, rfl, HXk, HMk⟩ := hrel
    by_cases hlt : k < 3
    · have hki : (k : Int) < 3 := by omega
      have hk0 : (0 : Int) ≤ (k : Int) := by omega
      have hbx : bX < wr.heap.size := HXk.out.lt
      have hgl : g < wr.heap.size := by have := HGl.out; have := HMk.out.below.size; omega
      have x0 : wr.cell? ⟨bX, 0, none⟩ = some (.int .i64 z0) := by rw [HXk.out.cell]; rfl
      have y0 : wr.cell? ⟨g, n * 2 + k * 2, none⟩ = some (.int .i64 z0) := by have := HC.out wr HMk.out k (by omega) 0 (by omega) _ rfl; rw [Nat.add_mul] at this; simpa using this
      have x1 : wr.cell? ⟨bX, 1, none⟩ = some (.int .i64 z1) := by rw [HXk.out.cell]; rfl
      have y1 : wr.cell? ⟨g, n * 2 + k * 2 + 1, none⟩ = some (.int .i64 z1) := by have := HC.out wr HMk.out k (by omega) 1 (by omega) _ rfl; rw [Nat.add_mul] at this; simpa using this
      have HXn := Lib.hid (fun (W : World) (hW : Mor wr W) => show Blk W bX 52 #[.int .i64 z0, .int .i64 z1] from HXk.out.below hW.below HXk.out.lt)
      go_wp2
      go_roundw
      case rel => exact ⟨k + 1, hlt, by go_num, Lib.hid (HXn.out _ (Mor.refl _).alloc), Lib.hid HMk.out.alloc⟩
      case measure => simp [intOf]; omega
    · obtain rfl : k = 3 := by omega
      go_wp2
      go_returns
      exact ⟨rfl, HMk.out⟩

set_option maxHeartbeats 3200000 in
theorem spoil_it (g n cap : Nat) (cs : Array Value) (z0 : Int) (z1 : Int) (w : World) (hb : Blk w g 52 cs) (hl : cs.size = cap * 2) (hn : n ≤ cap) (hm : cap ≤ maxLen) :
    Calls Tryd.prog 44 #[.slice (some ⟨g, 0, none⟩) n cap, .agg #[.int .i64 z0, .int .i64 z1]] w fun e w' => e = .returned (.tuple #[]) ∧ w.grownBy w' (some g) := by
  have HB := Lib.hid hb
  have HL := Lib.hid hl
  have hmx : (cap : Int) ≤ 9223372036854775807 := by unfold maxLen at hm; omega
  have HX := Lib.hid (Blk.new w 52 #[.int .i64 z0, .int .i64 z1])
  have HG := Lib.hid (World.grownBy_alloc w (.cells #[.int .i64 z0, .int .i64 z1] 52) (some g))
  have HBa := Lib.hid (hb.alloc (.cells #[.int .i64 z0, .int .i64 z1] 52))
  have hgw := hb.lt
  clear hb hl hm
  obtain ⟨bX, hX⟩ : ∃ bX, bX = w.heap.size := ⟨_, rfl⟩
  have hgX : g ≠ bX := by omega
  go_enter Tryd.func44, Tryd.ntmps44
  go_wp2
  generalize w.alloc (.cells #[.int .i64 z0, .int .i64 z1] 52) = w0 at *
  rw [← hX] at HX
  rw [← hX]
  clear hX hgw
  go_loopw [11] (fun i wr => ∃ k : Nat, k ≤ cap ∧ i = .int .i64 k ∧ Hid (∃ ds, Blk wr g 52 ds ∧ ds.size = cap * 2) ∧ Hid (Blk wr bX 52 #[.int .i64 z0, .int .i64 z1]) ∧ Hid (w.grownBy wr (some g))) (fun i _ => cap - (intOf i).toNat)
  case atStart => exact ⟨0, Nat.zero_le _, rfl, Lib.hid ⟨_, HBa.out, HL.out⟩, HX, HG⟩
  case round =>
    obtain ⟨k, hk, rfl, HBk, HXk, HGk⟩ := hrel
    obtain ⟨ds, hds, hsz⟩ := HBk.out
    by_cases hlt : k < cap
    · have hki : (k : Int) < (cap : Int) := by omega
      have hf : ∀ o, wr.frozen? ⟨g, o, none⟩ = false := fun o => hds.frozen o
      have hg : g < wr.heap.size := hds.lt
      have hbx : bX < wr.heap.size := HXk.out.lt
      have x0 : wr.cell? ⟨bX, 0, none⟩ = some (.int .i64 z0) := by rw [HXk.out.cell]; rfl
      have x1 : wr.cell? ⟨bX, 1, none⟩ = some (.int .i64 z1) := by rw [HXk.out.cell]; rfl
      obtain ⟨y0, c0⟩ := blk_some hds (k * 2) (by omega)
      obtain ⟨y1, c1⟩ := blk_some hds (k * 2 + 1) (by omega)
      clear HBk
      have HDs := Lib.hid hds
      have HSz := Lib.hid hsz
      clear hds hsz
      go_wp2
      go_roundw
      case rel => exact ⟨k + 1, hlt, by go_num, Lib.hid ⟨_, (Blk.set_ (Blk.set_ HDs.out (k * 2) (.int .i64 z0)) (k * 2 + 1) (.int .i64 z1)), (set_size _ _ _ (set_size _ _ _ HSz.out))⟩, Lib.hid (blk_off (i := k * 2 + 1) (u := .int .i64 z1) (blk_off (i := k * 2) (u := .int .i64 z0) HXk.out hgX) hgX), Lib.hid (grown_set (i := k * 2 + 1) (u := .int .i64 z1) (grown_set (i := k * 2) (u := .int .i64 z0) HGk.out))⟩
      case measure => simp [intOf]; omega
    · obtain rfl : k = cap := by omega
      clear hds hsz
      go_wp2
      go_returns
      exact ⟨rfl, HGk.out⟩


end Go.Proofs.YtahegjhjonodlaaDoor

/- talkeep.roomy, marked, spoil at tallage/api.Move (printed by groom.py). -/
namespace Go.Proofs.YtahegjhjonodlaaDoor
open Go.ChangeShapes Go.WideShapes Go.ChangeAt Go.RowKit
set_option linter.unusedVariables false
set_option maxRecDepth 100000

theorem infoG_mv : (Tryd.prog.info? 55).map (fun i => (i.zero, i.size, i.bytes)) = some (some (.agg #[.int .i64 0, .int .i64 0]), 2, 16) := by kernel_rfl
set_option maxHeartbeats 3200000 in
theorem roomy_mv (A : Option Addr) (n cap : Nat) (cs : List Value) (z0 : Int) (z1 : Int) (w : World) (hc : ∀ (W : World), Mor w W → ∀ y, A = some y → ∀ j u, cs[j]? = some u → W.cell? (y.add j) = some u) (h1 : ∀ u ∈ cs, u.oneCell' = true) (hn : cs.length = n * 2) (h0 : A = none → n = 0) (hl : n ≤ 8796093022208) :
    Calls Tryd.prog 25 #[.slice A n cap, .agg #[.int .i64 z0, .int .i64 z1]] w (RoomPost3 55 w n cs [.int .i64 z0, .int .i64 z1]) := by
  obtain ⟨i0, hi, hz0, hz1, hz2⟩ := info_parts infoG_mv
  have e3 : IntKind.i64.wrap ((n : Int) + 3) = ((n + 3 : Nat) : Int) := by rw [IntKind.wrap_i64]; omega
  have HC := Lib.hid hc
  have HA := Lib.hid h0
  have HCl := Lib.hid hn
  have H1 := Lib.hid h1
  have HX0 := Lib.hid (Blk.new w 55 #[.int .i64 z0, .int .i64 z1])
  have HM0 := Lib.hid ((Mor.refl w).alloc (o := .cells #[.int .i64 z0, .int .i64 z1] 55))
  clear hc hn h0 h1
  have hmk3 : ∀ W : World, (Instr.makeSlice 47 (.int .i64 0) (.int .i64 ((n : Int) + 3))).run Tryd.prog W = .ok (.slice (some ⟨W.heap.size, 0, none⟩) 0 (n + 3)) (W.alloc (.cells (madeCells (Value.cells (.agg #[.int .i64 0, .int .i64 0])) ((n + 3) * 2)) 55)) := by
    intro W
    have hr := run_make (P := Tryd.prog) W 47 55 i0 (.agg #[.int .i64 0, .int .i64 0]) Tryd.underlying47 hi hz0 .i64 .i64 0 ((n + 3 : Nat) : Int) (by omega) (by omega) (by rw [hz2]; omega) (by omega)
    rw [hz1, Int.toNat_natCast, show ((n + 3 : Nat) : Int) = (n : Int) + 3 by omega] at hr
    exact hr
  generalize hZ : madeCells (Value.cells (.agg #[.int .i64 0, .int .i64 0])) ((n + 3) * 2) = mk at hmk3
  have HMl := Lib.hid (show mk.size = (n + 3) * 2 by rw [← hZ, size_madeCells])
  clear hZ
  obtain ⟨bX, hbX⟩ : ∃ bX, bX = w.heap.size := ⟨_, rfl⟩
  have HBX := Lib.hid hbX
  obtain ⟨g, hg⟩ : ∃ g, g = w.heap.size + 1 := ⟨_, rfl⟩
  have HG := Lib.hid (show w.heap.size ≤ g by omega)
  have hgX : g ≠ bX := by omega
  cases A with
  | none =>
    obtain rfl : n = 0 := HA.out rfl
    have hx : cs = [] := List.eq_nil_of_length_eq_zero (by simpa using HCl.out)
    subst hx
    clear HC HA H1
    have hmk4 : ∀ W : World, (Instr.makeSlice 47 (.int .i64 0) (.int .i64 3)).run Tryd.prog W = .ok (.slice (some ⟨W.heap.size, 0, none⟩) 0 3) (W.alloc (.cells mk 55)) := hmk3
    clear hmk3
    go_enter Tryd.func25, Tryd.ntmps25
    go_wp2_with (at_builtin; refine wpList_append_nilc rfl _ _ 47 rfl 55 i0 Tryd.underlying47 hi (w.heap.size + 1) 0 3 cap rfl rfl (by omega) ?_)
    have HF := Lib.hid (show Fil ((w.alloc (.cells #[.int .i64 z0, .int .i64 z1] 55)).alloc (.cells mk 55)) g 55 (room3 [] [.int .i64 z0, .int .i64 z1]) ((0 + 0) * 2) by
      have := fil_new (w := w.alloc (.cells #[.int .i64 z0, .int .i64 z1] 55)) (t := 55) (us := [.int .i64 z0, .int .i64 z1]) (s := 2) (mk := mk) HMl.out rfl
      rw [szAl] at this
      rw [hg]; exact this)
    have HX := Lib.hid (show Blk ((w.alloc (.cells #[.int .i64 z0, .int .i64 z1] 55)).alloc (.cells mk 55)) bX 55 #[.int .i64 z0, .int .i64 z1] by rw [hbX]; exact HX0.out.alloc _)
    have HB2 : Hid (Mor w ((w.alloc (.cells #[.int .i64 z0, .int .i64 z1] 55)).alloc (.cells mk 55))) := Lib.hid (HM0.out.alloc (o := .cells mk 55))
    generalize (w.alloc (.cells #[.int .i64 z0, .int .i64 z1] 55)).alloc (.cells mk 55) = w2 at *
    rw [← hg, ← hbX]
    clear hmk4 HX0 HM0 HMl hg hbX HBX
    go_wp2
    go_loopw [13] (fun i wr => ∃ k : Nat, k ≤ 3 ∧ i = .int .i64 k ∧ Hid (Fil wr g 55 (room3 [] [.int .i64 z0, .int .i64 z1]) ((0 + k) * 2)) ∧ Hid (Blk wr bX 55 #[.int .i64 z0, .int .i64 z1]) ∧ Hid (Mor w wr)) (fun i _ => 3 - (intOf i).toNat)
    case atStart => exact ⟨0, Nat.zero_le _, rfl, HF, HX, HB2⟩
    case round =>
      obtain ⟨k, hk, rfl, HBk, HXk, HMk⟩ := hrel
      by_cases hlt : k < 3
      · have hki : (k : Int) < 3 := by omega
        have hk0 : (0 : Int) ≤ (k : Int) := by omega
        have e4 : IntKind.i64.wrap (k : Int) = (k : Int) := by rw [IntKind.wrap_i64]; omega
        obtain ⟨ds, hds, hsz, hdj⟩ := HBk.out
        have htl : (room3 [] [.int .i64 z0, .int .i64 z1]).length = (0 + 3) * 2 := by rw [room3_len, HCl.out]; simp; try omega
        have hbx : bX < wr.heap.size := HXk.out.lt
        have hgl : g < wr.heap.size := hds.lt
        have x0 : wr.cell? ⟨bX, 0, none⟩ = some (.int .i64 z0) := by rw [HXk.out.cell]; rfl
        have x1 : wr.cell? ⟨bX, 1, none⟩ = some (.int .i64 z1) := by rw [HXk.out.cell]; rfl
        have hf : ∀ o, wr.frozen? ⟨g, o, none⟩ = false := fun o => hds.frozen o
        obtain ⟨y0, c0⟩ := blk_some hds (k * 2) (by omega)
        obtain ⟨y1, c1⟩ := blk_some hds (k * 2 + 1) (by omega)
        have hnx := Fil.next (us := [.int .i64 z0, .int .i64 z1]) hsz hdj (by rw [htl]; simp; try omega) (fun i hi => room3_get [] [.int .i64 z0, .int .i64 z1] HCl.out rfl k i (by omega) (by simpa using hi))
        have HNx := Lib.hid (show (setL ds (k * 2) [.int .i64 z0, .int .i64 z1]).size = (room3 [] [.int .i64 z0, .int .i64 z1]).length ∧ ∀ j, j < (0 + (k + 1)) * 2 → (setL ds (k * 2) [.int .i64 z0, .int .i64 z1])[j]? = (room3 [] [.int .i64 z0, .int .i64 z1])[j]? from by
          have e6 : (0 + k) * 2 = k * 2 := by rw [Nat.zero_add]
          rw [e6] at hnx
          refine ⟨hnx.1, fun j hj => hnx.2 j ?_⟩
          simp only [List.length_cons, List.length_nil]
          omega)
        have hny := HNx.out
        simp only [setL] at hny
        have HNy := Lib.hid hny
        clear HBk HNx
        have HDs := Lib.hid hds
        clear hds hsz hdj hnx hny htl
        go_wp2
        go_region
        go_wp2
        go_roundw
        case rel => exact ⟨k + 1, hlt, by go_num, Lib.hid (show Fil _ g 55 (room3 [] [.int .i64 z0, .int .i64 z1]) ((0 + (k + 1)) * 2) from ⟨_, Blk.drew (Blk.set_ (Blk.set_ HDs.out (k * 2) (.int .i64 z0)) (k * 2 + 1) (.int .i64 z1)), HNy.out⟩), Lib.hid (by exact Blk.drew (blk_off (i := k * 2 + 1) (u := .int .i64 z1) (blk_off (i := k * 2) (u := .int .i64 z0) HXk.out hgX) hgX)), Lib.hid (Mor.drew (Mor.of_below (Below.setCell (p := (⟨g, k * 2 + 1, none⟩ : Addr)) (Below.setCell (p := (⟨g, k * 2, none⟩ : Addr)) HMk.out.below (by exact HG.out) (.int .i64 z0)) (by exact HG.out) (.int .i64 z1))))⟩
        case measure => simp [intOf]; omega
      · obtain rfl : k = 3 := by omega
        have HBf := Lib.hid (show Blk wr g 55 (room3 [] [.int .i64 z0, .int .i64 z1]).toArray from HBk.out.all (by rw [room3_len, HCl.out]; simp; try omega))
        go_wp2
        go_ret
        exact ⟨g, rfl, HG.out, HMk.out, HBf.out⟩
  | some y =>
    have HCy := Lib.hid (fun (W : World) (hW : Mor w W) => HC.out W hW y rfl)
    clear HC HA
    go_enter Tryd.func25, Tryd.ntmps25
    go_wp2_with (at_builtin; refine wpList_append_own_spare _ rfl _ _ 47 rfl (w.heap.size + 1) 55 i0 2 Tryd.underlying47 hi hz1 (w.heap.size + 1) 0 (n + 3) [] rfl ⟨by simp, .inr ⟨w.heap.size + 1, n + 3, mk, rfl, Nat.le_refl _, (by have := heap_alloc_new (w.alloc (.cells #[.int .i64 z0, .int .i64 z1] 55)) (.cells mk 55); rw [szAl] at this; exact this), Nat.zero_le _, by unfold maxLen; omega, HMl.out, by simp⟩⟩ y n cap cs rfl HCl.out ?_ ?_ ?_ ?_)
    · exact fun j u hu => HCy.out _ (HM0.out.alloc) j u hu
    · exact H1.out
    · omega
    · intro w2 hown2 hgrow2
      have HF := Lib.hid (show Fil w2 g 55 (room3 cs [.int .i64 z0, .int .i64 z1]) ((n + 0) * 2) by
        rw [hg]
        exact own_fil (n := n) (c := n + 3) (cs := cs) (s := 2) (by simpa using hown2) rfl rfl)
      have HX := Lib.hid (show Blk w2 bX 55 #[.int .i64 z0, .int .i64 z1] by
        rw [hbX]
        exact (hgrow2.block w.heap.size (by simp; omega) (by intro e; injection e with e; omega)).trans (HX0.out.alloc _))
      have HB2 := Lib.hid (show Mor w w2 from grown_morR (HM0.out.alloc (o := .cells mk 55)) hgrow2 (by omega))
      clear hown2 hgrow2 hmk3
      rw [← hg, ← hbX]
      clear HX0 HM0 HMl hg hbX HBX HCy H1
      go_wp2
      go_loopw [13] (fun i wr => ∃ k : Nat, k ≤ 3 ∧ i = .int .i64 k ∧ Hid (Fil wr g 55 (room3 cs [.int .i64 z0, .int .i64 z1]) ((n + k) * 2)) ∧ Hid (Blk wr bX 55 #[.int .i64 z0, .int .i64 z1]) ∧ Hid (Mor w wr)) (fun i _ => 3 - (intOf i).toNat)
      case atStart => exact ⟨0, Nat.zero_le _, rfl, HF, HX, HB2⟩
      case round =>
        obtain ⟨k, hk, rfl, HBk, HXk, HMk⟩ := hrel
        by_cases hlt : k < 3
        · have hki : (k : Int) < 3 := by omega
          have hk0 : (0 : Int) ≤ (k : Int) := by omega
          obtain ⟨r, hr⟩ : ∃ r : Nat, r = n + k := ⟨_, rfl⟩
          have hrn : r < n + 3 := by omega
          have e4 : IntKind.i64.wrap ((n : Int) + (k : Int)) = (r : Int) := by rw [IntKind.wrap_i64]; omega
          have hr1 : (r : Int) < ((n + 3 : Nat) : Int) := by omega
          have hr0 : (0 : Int) ≤ (r : Int) := by omega
          obtain ⟨ds, hds, hsz, hdj⟩ := HBk.out
          have htl : (room3 cs [.int .i64 z0, .int .i64 z1]).length = (n + 3) * 2 := by rw [room3_len, HCl.out]; simp; try omega
          have hbx : bX < wr.heap.size := HXk.out.lt
          have hgl : g < wr.heap.size := hds.lt
          have x0 : wr.cell? ⟨bX, 0, none⟩ = some (.int .i64 z0) := by rw [HXk.out.cell]; rfl
          have x1 : wr.cell? ⟨bX, 1, none⟩ = some (.int .i64 z1) := by rw [HXk.out.cell]; rfl
          have hf : ∀ o, wr.frozen? ⟨g, o, none⟩ = false := fun o => hds.frozen o
          obtain ⟨y0, c0⟩ := blk_some hds (r * 2) (by omega)
          obtain ⟨y1, c1⟩ := blk_some hds (r * 2 + 1) (by omega)
          have hnx := Fil.next (us := [.int .i64 z0, .int .i64 z1]) hsz hdj (by rw [htl]; simp; try omega) (fun i hi => room3_get cs [.int .i64 z0, .int .i64 z1] HCl.out rfl k i (by omega) (by simpa using hi))
          have HNx := Lib.hid (show (setL ds (r * 2) [.int .i64 z0, .int .i64 z1]).size = (room3 cs [.int .i64 z0, .int .i64 z1]).length ∧ ∀ j, j < (n + (k + 1)) * 2 → (setL ds (r * 2) [.int .i64 z0, .int .i64 z1])[j]? = (room3 cs [.int .i64 z0, .int .i64 z1])[j]? from by
            have e6 : (n + k) * 2 = r * 2 := by rw [hr]
            rw [e6] at hnx
            refine ⟨hnx.1, fun j hj => hnx.2 j ?_⟩
            simp only [List.length_cons, List.length_nil]
            omega)
          have hny := HNx.out
          simp only [setL] at hny
          have HNy := Lib.hid hny
          clear HBk HNx
          have HDs := Lib.hid hds
          clear hds hsz hdj hnx hny htl hr
          go_wp2
          go_region
          go_wp2
          go_roundw
          case rel => exact ⟨k + 1, hlt, by go_num, Lib.hid (show Fil _ g 55 (room3 cs [.int .i64 z0, .int .i64 z1]) ((n + (k + 1)) * 2) from ⟨_, Blk.drew (Blk.set_ (Blk.set_ HDs.out (r * 2) (.int .i64 z0)) (r * 2 + 1) (.int .i64 z1)), HNy.out⟩), Lib.hid (by exact Blk.drew (blk_off (i := r * 2 + 1) (u := .int .i64 z1) (blk_off (i := r * 2) (u := .int .i64 z0) HXk.out hgX) hgX)), Lib.hid (Mor.drew (Mor.of_below (Below.setCell (p := (⟨g, r * 2 + 1, none⟩ : Addr)) (Below.setCell (p := (⟨g, r * 2, none⟩ : Addr)) HMk.out.below (by exact HG.out) (.int .i64 z0)) (by exact HG.out) (.int .i64 z1))))⟩
          case measure => simp [intOf]; omega
        · obtain rfl : k = 3 := by omega
          have HBf := Lib.hid (show Blk wr g 55 (room3 cs [.int .i64 z0, .int .i64 z1]).toArray from HBk.out.all (by rw [room3_len, HCl.out]; simp; try omega))
          go_wp2
          go_ret
          exact ⟨g, rfl, HG.out, HMk.out, HBf.out⟩

set_option maxHeartbeats 3200000 in
theorem marked_mv (g n : Nat) (cs : List Value) (z0 : Int) (z1 : Int) (w : World) (h : Blk w g 55 (room3 cs [.int .i64 z0, .int .i64 z1]).toArray) (hn : cs.length = n * 2) (hl : n ≤ 8796093022208) :
    Calls Tryd.prog 35 #[.slice (some ⟨g, 0, none⟩) n (n + 3), .agg #[.int .i64 z0, .int .i64 z1]] w fun e w' => e = .returned (.bool true) ∧ Mor w w' := by
  have HC := Lib.hid (fun (W : World) (hW : Mor w W) (k : Nat) (hk : k < 3) (i : Nat) (hi : i < 2) (u : Value) (hu : ([.int .i64 z0, .int .i64 z1] : List Value)[i]? = some u) => show W.cell? ⟨g, (n + k) * 2 + i, none⟩ = some u from blk_at (h.below hW.below h.lt) _ ((room3_get cs [.int .i64 z0, .int .i64 z1] hn rfl k i hk hi).trans hu))
  have HGl := Lib.hid h.lt
  have HX0 := Lib.hid (Blk.new w 55 #[.int .i64 z0, .int .i64 z1])
  have HM0 := Lib.hid ((Mor.refl w).alloc (o := .cells #[.int .i64 z0, .int .i64 z1] 55))
  clear h hn
  have e3 : n + 3 - n = 3 := by omega
  obtain ⟨bX, hbX⟩ : ∃ bX, bX = w.heap.size := ⟨_, rfl⟩
  go_enter Tryd.func35, Tryd.ntmps35
  go_wp2
  generalize w.alloc (.cells #[.int .i64 z0, .int .i64 z1] 55) = w2 at *
  rw [← hbX] at HX0
  rw [← hbX]
  clear hbX
  go_loopw [14] (fun i wr => ∃ k : Nat, k ≤ 3 ∧ i = .int .i64 k ∧ Hid (Blk wr bX 55 #[.int .i64 z0, .int .i64 z1]) ∧ Hid (Mor w wr)) (fun i _ => 3 - (intOf i).toNat)
  case atStart => exact ⟨0, Nat.zero_le _, rfl, HX0, HM0⟩
  case round =>
    obtain ⟨k, hk, rfl, HXk, HMk⟩ := hrel
    by_cases hlt : k < 3
    · have hki : (k : Int) < 3 := by omega
      have hk0 : (0 : Int) ≤ (k : Int) := by omega
      have hbx : bX < wr.heap.size := HXk.out.lt
      have hgl : g < wr.heap.size := by have := HGl.out; have := HMk.out.below.size; omega
      have x0 : wr.cell? ⟨bX, 0, none⟩ = some (.int .i64 z0) := by rw [HXk.out.cell]; rfl
      have y0 : wr.cell? ⟨g, n * 2 + k * 2, none⟩ = some (.int .i64 z0) := by have := HC.out wr HMk.out k (by omega) 0 (by omega) _ rfl; rw [Nat.add_mul] at this; simpa using this
      have x1 : wr.cell? ⟨bX, 1, none⟩ = some (.int .i64 z1) := by rw [HXk.out.cell]; rfl
      have y1 : wr.cell? ⟨g, n * 2 + k * 2 + 1, none⟩ = some (.int .i64 z1) := by have := HC.out wr HMk.out k (by omega) 1 (by omega) _ rfl; rw [Nat.add_mul] at this; simpa using this
      have HXn := Lib.hid (fun (W : World) (hW : Mor wr W) => show Blk W bX 55 #[.int .i64 z0, .int .i64 z1] from HXk.out.below hW.below HXk.out.lt)
      go_wp2
      go_roundw
      case rel => exact ⟨k + 1, hlt, by go_num, Lib.hid (HXn.out _ (Mor.refl _).alloc), Lib.hid HMk.out.alloc⟩
      case measure => simp [intOf]; omega
    · obtain rfl : k = 3 := by omega
      go_wp2
      go_returns
      exact ⟨rfl, HMk.out⟩

set_option maxHeartbeats 3200000 in
theorem spoil_mv (g n cap : Nat) (cs : Array Value) (z0 : Int) (z1 : Int) (w : World) (hb : Blk w g 55 cs) (hl : cs.size = cap * 2) (hn : n ≤ cap) (hm : cap ≤ maxLen) :
    Calls Tryd.prog 43 #[.slice (some ⟨g, 0, none⟩) n cap, .agg #[.int .i64 z0, .int .i64 z1]] w fun e w' => e = .returned (.tuple #[]) ∧ w.grownBy w' (some g) := by
  have HB := Lib.hid hb
  have HL := Lib.hid hl
  have hmx : (cap : Int) ≤ 9223372036854775807 := by unfold maxLen at hm; omega
  have HX := Lib.hid (Blk.new w 55 #[.int .i64 z0, .int .i64 z1])
  have HG := Lib.hid (World.grownBy_alloc w (.cells #[.int .i64 z0, .int .i64 z1] 55) (some g))
  have HBa := Lib.hid (hb.alloc (.cells #[.int .i64 z0, .int .i64 z1] 55))
  have hgw := hb.lt
  clear hb hl hm
  obtain ⟨bX, hX⟩ : ∃ bX, bX = w.heap.size := ⟨_, rfl⟩
  have hgX : g ≠ bX := by omega
  go_enter Tryd.func43, Tryd.ntmps43
  go_wp2
  generalize w.alloc (.cells #[.int .i64 z0, .int .i64 z1] 55) = w0 at *
  rw [← hX] at HX
  rw [← hX]
  clear hX hgw
  go_loopw [11] (fun i wr => ∃ k : Nat, k ≤ cap ∧ i = .int .i64 k ∧ Hid (∃ ds, Blk wr g 55 ds ∧ ds.size = cap * 2) ∧ Hid (Blk wr bX 55 #[.int .i64 z0, .int .i64 z1]) ∧ Hid (w.grownBy wr (some g))) (fun i _ => cap - (intOf i).toNat)
  case atStart => exact ⟨0, Nat.zero_le _, rfl, Lib.hid ⟨_, HBa.out, HL.out⟩, HX, HG⟩
  case round =>
    obtain ⟨k, hk, rfl, HBk, HXk, HGk⟩ := hrel
    obtain ⟨ds, hds, hsz⟩ := HBk.out
    by_cases hlt : k < cap
    · have hki : (k : Int) < (cap : Int) := by omega
      have hf : ∀ o, wr.frozen? ⟨g, o, none⟩ = false := fun o => hds.frozen o
      have hg : g < wr.heap.size := hds.lt
      have hbx : bX < wr.heap.size := HXk.out.lt
      have x0 : wr.cell? ⟨bX, 0, none⟩ = some (.int .i64 z0) := by rw [HXk.out.cell]; rfl
      have x1 : wr.cell? ⟨bX, 1, none⟩ = some (.int .i64 z1) := by rw [HXk.out.cell]; rfl
      obtain ⟨y0, c0⟩ := blk_some hds (k * 2) (by omega)
      obtain ⟨y1, c1⟩ := blk_some hds (k * 2 + 1) (by omega)
      clear HBk
      have HDs := Lib.hid hds
      have HSz := Lib.hid hsz
      clear hds hsz
      go_wp2
      go_roundw
      case rel => exact ⟨k + 1, hlt, by go_num, Lib.hid ⟨_, (Blk.set_ (Blk.set_ HDs.out (k * 2) (.int .i64 z0)) (k * 2 + 1) (.int .i64 z1)), (set_size _ _ _ (set_size _ _ _ HSz.out))⟩, Lib.hid (blk_off (i := k * 2 + 1) (u := .int .i64 z1) (blk_off (i := k * 2) (u := .int .i64 z0) HXk.out hgX) hgX), Lib.hid (grown_set (i := k * 2 + 1) (u := .int .i64 z1) (grown_set (i := k * 2) (u := .int .i64 z0) HGk.out))⟩
      case measure => simp [intOf]; omega
    · obtain rfl : k = cap := by omega
      clear hds hsz
      go_wp2
      go_returns
      exact ⟨rfl, HGk.out⟩


end Go.Proofs.YtahegjhjonodlaaDoor

/- talkeep.roomy, marked, spoil at tallage/api.Plan (printed by groom.py). -/
namespace Go.Proofs.YtahegjhjonodlaaDoor
open Go.ChangeShapes Go.WideShapes Go.ChangeAt Go.RowKit
set_option linter.unusedVariables false
set_option maxRecDepth 100000

theorem infoG_pl : (Tryd.prog.info? 59).map (fun i => (i.zero, i.size, i.bytes)) = some (some (.agg #[.string { data := #[] }, .int .i64 0, .int .i64 0, .int .i64 0, .int .i64 0, .string { data := #[] }, .string { data := #[] }]), 7, 80) := by kernel_rfl
set_option maxHeartbeats 3200000 in
theorem roomy_pl (A : Option Addr) (n cap : Nat) (cs : List Value) (z0 : ByteArray) (z1 : Int) (z2 : Int) (z3 : Int) (z4 : Int) (z5 : ByteArray) (z6 : ByteArray) (w : World) (hc : ∀ (W : World), Mor w W → ∀ y, A = some y → ∀ j u, cs[j]? = some u → W.cell? (y.add j) = some u) (h1 : ∀ u ∈ cs, u.oneCell' = true) (hn : cs.length = n * 7) (h0 : A = none → n = 0) (hl : n ≤ 1759218604441) :
    Calls Tryd.prog 27 #[.slice A n cap, .agg #[.string z0, .int .i64 z1, .int .i64 z2, .int .i64 z3, .int .i64 z4, .string z5, .string z6]] w (RoomPost3 59 w n cs [.string z0, .int .i64 z1, .int .i64 z2, .int .i64 z3, .int .i64 z4, .string z5, .string z6]) := by
  obtain ⟨i0, hi, hz0, hz1, hz2⟩ := info_parts infoG_pl
  have e3 : IntKind.i64.wrap ((n : Int) + 3) = ((n + 3 : Nat) : Int) := by rw [IntKind.wrap_i64]; omega
  have HC := Lib.hid hc
  have HA := Lib.hid h0
  have HCl := Lib.hid hn
  have H1 := Lib.hid h1
  have HX0 := Lib.hid (Blk.new w 59 #[.string z0, .int .i64 z1, .int .i64 z2, .int .i64 z3, .int .i64 z4, .string z5, .string z6])
  have HM0 := Lib.hid ((Mor.refl w).alloc (o := .cells #[.string z0, .int .i64 z1, .int .i64 z2, .int .i64 z3, .int .i64 z4, .string z5, .string z6] 59))
  clear hc hn h0 h1
  have hmk3 : ∀ W : World, (Instr.makeSlice 49 (.int .i64 0) (.int .i64 ((n : Int) + 3))).run Tryd.prog W = .ok (.slice (some ⟨W.heap.size, 0, none⟩) 0 (n + 3)) (W.alloc (.cells (madeCells (Value.cells (.agg #[.string { data := #[] }, .int .i64 0, .int .i64 0, .int .i64 0, .int .i64 0, .string { data := #[] }, .string { data := #[] }])) ((n + 3) * 7)) 59)) := by
    intro W
    have hr := run_make (P := Tryd.prog) W 49 59 i0 (.agg #[.string { data := #[] }, .int .i64 0, .int .i64 0, .int .i64 0, .int .i64 0, .string { data := #[] }, .string { data := #[] }]) Tryd.underlying49 hi hz0 .i64 .i64 0 ((n + 3 : Nat) : Int) (by omega) (by omega) (by rw [hz2]; omega) (by omega)
    rw [hz1, Int.toNat_natCast, show ((n + 3 : Nat) : Int) = (n : Int) + 3 by omega] at hr
    exact hr
  generalize hZ : madeCells (Value.cells (.agg #[.string { data := #[] }, .int .i64 0, .int .i64 0, .int .i64 0, .int .i64 0, .string { data := #[] }, .string { data := #[] }])) ((n + 3) * 7) = mk at hmk3
  have HMl := Lib.hid (show mk.size = (n + 3) * 7 by rw [← hZ, size_madeCells])
  clear hZ
  obtain ⟨bX, hbX⟩ : ∃ bX, bX = w.heap.size := ⟨_, rfl⟩
  have HBX := Lib.hid hbX
  obtain ⟨g, hg⟩ : ∃ g, g = w.heap.size + 1 := ⟨_, rfl⟩
  have HG := Lib.hid (show w.heap.size ≤ g by omega)
  have hgX : g ≠ bX := by omega
  cases A with
  | none =>
    obtain rfl : n = 0 := HA.out rfl
    have hx : cs = [] := List.eq_nil_of_length_eq_zero (by simpa using HCl.out)
    subst hx
    clear HC HA H1
    have hmk4 : ∀ W : World, (Instr.makeSlice 49 (.int .i64 0) (.int .i64 3)).run Tryd.prog W = .ok (.slice (some ⟨W.heap.size, 0, none⟩) 0 3) (W.alloc (.cells mk 59)) := hmk3
    clear hmk3
    go_enter Tryd.func27, Tryd.ntmps27
    go_wp2_with (at_builtin; refine wpList_append_nilc rfl _ _ 49 rfl 59 i0 Tryd.underlying49 hi (w.heap.size + 1) 0 3 cap rfl rfl (by omega) ?_)
    have HF := Lib.hid (show Fil ((w.alloc (.cells #[.string z0, .int .i64 z1, .int .i64 z2, .int .i64 z3, .int .i64 z4, .string z5, .string z6] 59)).alloc (.cells mk 59)) g 59 (room3 [] [.string z0, .int .i64 z1, .int .i64 z2, .int .i64 z3, .int .i64 z4, .string z5, .string z6]) ((0 + 0) * 7) by
      have := fil_new (w := w.alloc (.cells #[.string z0, .int .i64 z1, .int .i64 z2, .int .i64 z3, .int .i64 z4, .string z5, .string z6] 59)) (t := 59) (us := [.string z0, .int .i64 z1, .int .i64 z2, .int .i64 z3, .int .i64 z4, .string z5, .string z6]) (s := 7) (mk := mk) HMl.out rfl
      rw [szAl] at this
      rw [hg]; exact this)
    have HX := Lib.hid (show Blk ((w.alloc (.cells #[.string z0, .int .i64 z1, .int .i64 z2, .int .i64 z3, .int .i64 z4, .string z5, .string z6] 59)).alloc (.cells mk 59)) bX 59 #[.string z0, .int .i64 z1, .int .i64 z2, .int .i64 z3, .int .i64 z4, .string z5, .string z6] by rw [hbX]; exact HX0.out.alloc _)
    have HB2 : Hid (Mor w ((w.alloc (.cells #[.string z0, .int .i64 z1, .int .i64 z2, .int .i64 z3, .int .i64 z4, .string z5, .string z6] 59)).alloc (.cells mk 59))) := Lib.hid (HM0.out.alloc (o := .cells mk 59))
    generalize (w.alloc (.cells #[.string z0, .int .i64 z1, .int .i64 z2, .int .i64 z3, .int .i64 z4, .string z5, .string z6] 59)).alloc (.cells mk 59) = w2 at *
    rw [← hg, ← hbX]
    clear hmk4 HX0 HM0 HMl hg hbX HBX
    go_wp2
    go_loopw [13] (fun i wr => ∃ k : Nat, k ≤ 3 ∧ i = .int .i64 k ∧ Hid (Fil wr g 59 (room3 [] [.string z0, .int .i64 z1, .int .i64 z2, .int .i64 z3, .int .i64 z4, .string z5, .string z6]) ((0 + k) * 7)) ∧ Hid (Blk wr bX 59 #[.string z0, .int .i64 z1, .int .i64 z2, .int .i64 z3, .int .i64 z4, .string z5, .string z6]) ∧ Hid (Mor w wr)) (fun i _ => 3 - (intOf i).toNat)
    case atStart => exact ⟨0, Nat.zero_le _, rfl, HF, HX, HB2⟩
    case round =>
      obtain ⟨k, hk, rfl, HBk, HXk, HMk⟩ := hrel
      by_cases hlt : k < 3
      · have hki : (k : Int) < 3 := by omega
        have hk0 : (0 : Int) ≤ (k : Int) := by omega
        have e4 : IntKind.i64.wrap (k : Int) = (k : Int) := by rw [IntKind.wrap_i64]; omega
        obtain ⟨ds, hds, hsz, hdj⟩ := HBk.out
        have htl : (room3 [] [.string z0, .int .i64 z1, .int .i64 z2, .int .i64 z3, .int .i64 z4, .string z5, .string z6]).length = (0 + 3) * 7 := by rw [room3_len, HCl.out]; simp; try omega
        have hbx : bX < wr.heap.size := HXk.out.lt
        have hgl : g < wr.heap.size := hds.lt
        have x0 : wr.cell? ⟨bX, 0, none⟩ = some (.string z0) := by rw [HXk.out.cell]; rfl
        have x1 : wr.cell? ⟨bX, 1, none⟩ = some (.int .i64 z1) := by rw [HXk.out.cell]; rfl
        have x2 : wr.cell? ⟨bX, 2, none⟩ = some (.int .i64 z2) := by rw [HXk.out.cell]; rfl
        have x3 : wr.cell? ⟨bX, 3, none⟩ = some (.int .i64 z3) := by rw [HXk.out.cell]; rfl
        have x4 : wr.cell? ⟨bX, 4, none⟩ = some (.int .i64 z4) := by rw [HXk.out.cell]; rfl
        have x5 : wr.cell? ⟨bX, 5, none⟩ = some (.string z5) := by rw [HXk.out.cell]; rfl
        have x6 : wr.cell? ⟨bX, 6, none⟩ = some (.string z6) := by rw [HXk.out.cell]; rfl
        have hf : ∀ o, wr.frozen? ⟨g, o, none⟩ = false := fun o => hds.frozen o
        obtain ⟨y0, c0⟩ := blk_some hds (k * 7) (by omega)
        obtain ⟨y1, c1⟩ := blk_some hds (k * 7 + 1) (by omega)
        obtain ⟨y2, c2⟩ := blk_some hds (k * 7 + 2) (by omega)
        obtain ⟨y3, c3⟩ := blk_some hds (k * 7 + 3) (by omega)
        obtain ⟨y4, c4⟩ := blk_some hds (k * 7 + 4) (by omega)
        obtain ⟨y5, c5⟩ := blk_some hds (k * 7 + 5) (by omega)
        obtain ⟨y6, c6⟩ := blk_some hds (k * 7 + 6) (by omega)
        have hnx := Fil.next (us := [.string z0, .int .i64 z1, .int .i64 z2, .int .i64 z3, .int .i64 z4, .string z5, .string z6]) hsz hdj (by rw [htl]; simp; try omega) (fun i hi => room3_get [] [.string z0, .int .i64 z1, .int .i64 z2, .int .i64 z3, .int .i64 z4, .string z5, .string z6] HCl.out rfl k i (by omega) (by simpa using hi))
        have HNx := Lib.hid (show (setL ds (k * 7) [.string z0, .int .i64 z1, .int .i64 z2, .int .i64 z3, .int .i64 z4, .string z5, .string z6]).size = (room3 [] [.string z0, .int .i64 z1, .int .i64 z2, .int .i64 z3, .int .i64 z4, .string z5, .string z6]).length ∧ ∀ j, j < (0 + (k + 1)) * 7 → (setL ds (k * 7) [.string z0, .int .i64 z1, .int .i64 z2, .int .i64 z3, .int .i64 z4, .string z5, .string z6])[j]? = (room3 [] [.string z0, .int .i64 z1, .int .i64 z2, .int .i64 z3, .int .i64 z4, .string z5, .string z6])[j]? from by
          have e6 : (0 + k) * 7 = k * 7 := by rw [Nat.zero_add]
          rw [e6] at hnx
          refine ⟨hnx.1, fun j hj => hnx.2 j ?_⟩
          simp only [List.length_cons, List.length_nil]
          omega)
        have hny := HNx.out
        simp only [setL, Nat.add_assoc, Nat.reduceAdd] at hny
        have HNy := Lib.hid hny
        clear HBk HNx
        have HDs := Lib.hid hds
        clear hds hsz hdj hnx hny htl
        go_wp2
        go_region
        go_wp2
        go_roundw
        case rel => exact ⟨k + 1, hlt, by go_num, Lib.hid (show Fil _ g 59 (room3 [] [.string z0, .int .i64 z1, .int .i64 z2, .int .i64 z3, .int .i64 z4, .string z5, .string z6]) ((0 + (k + 1)) * 7) from ⟨_, Blk.drew (Blk.set_ (Blk.set_ (Blk.set_ (Blk.set_ (Blk.set_ (Blk.set_ (Blk.set_ HDs.out (k * 7) (.string z0)) (k * 7 + 1) (.int .i64 z1)) (k * 7 + 2) (.int .i64 z2)) (k * 7 + 3) (.int .i64 z3)) (k * 7 + 4) (.int .i64 z4)) (k * 7 + 5) (.string z5)) (k * 7 + 6) (.string z6)), HNy.out⟩), Lib.hid (by exact Blk.drew (blk_off (i := k * 7 + 6) (u := .string z6) (blk_off (i := k * 7 + 5) (u := .string z5) (blk_off (i := k * 7 + 4) (u := .int .i64 z4) (blk_off (i := k * 7 + 3) (u := .int .i64 z3) (blk_off (i := k * 7 + 2) (u := .int .i64 z2) (blk_off (i := k * 7 + 1) (u := .int .i64 z1) (blk_off (i := k * 7) (u := .string z0) HXk.out hgX) hgX) hgX) hgX) hgX) hgX) hgX)), Lib.hid (Mor.drew (Mor.of_below (Below.setCell (p := (⟨g, k * 7 + 6, none⟩ : Addr)) (Below.setCell (p := (⟨g, k * 7 + 5, none⟩ : Addr)) (Below.setCell (p := (⟨g, k * 7 + 4, none⟩ : Addr)) (Below.setCell (p := (⟨g, k * 7 + 3, none⟩ : Addr)) (Below.setCell (p := (⟨g, k * 7 + 2, none⟩ : Addr)) (Below.setCell (p := (⟨g, k * 7 + 1, none⟩ : Addr)) (Below.setCell (p := (⟨g, k * 7, none⟩ : Addr)) HMk.out.below (by exact HG.out) (.string z0)) (by exact HG.out) (.int .i64 z1)) (by exact HG.out) (.int .i64 z2)) (by exact HG.out) (.int .i64 z3)) (by exact HG.out) (.int .i64 z4)) (by exact HG.out) (.string z5)) (by exact HG.out) (.string z6))))⟩
        case measure => simp [intOf]; omega
      · obtain rfl : k = 3 := by omega
        have HBf := Lib.hid (show Blk wr g 59 (room3 [] [.string z0, .int .i64 z1, .int .i64 z2, .int .i64 z3, .int .i64 z4, .string z5, .string z6]).toArray from HBk.out.all (by rw [room3_len, HCl.out]; simp; try omega))
        go_wp2
        go_ret
        exact ⟨g, rfl, HG.out, HMk.out, HBf.out⟩
  | some y =>
    have HCy := Lib.hid (fun (W : World) (hW : Mor w W) => HC.out W hW y rfl)
    clear HC HA
    go_enter Tryd.func27, Tryd.ntmps27
    go_wp2_with (at_builtin; refine wpList_append_own_spare _ rfl _ _ 49 rfl (w.heap.size + 1) 59 i0 7 Tryd.underlying49 hi hz1 (w.heap.size + 1) 0 (n + 3) [] rfl ⟨by simp, .inr ⟨w.heap.size + 1, n + 3, mk, rfl, Nat.le_refl _, (by have := heap_alloc_new (w.alloc (.cells #[.string z0, .int .i64 z1, .int .i64 z2, .int .i64 z3, .int .i64 z4, .string z5, .string z6] 59)) (.cells mk 59); rw [szAl] at this; exact this), Nat.zero_le _, by unfold maxLen; omega, HMl.out, by simp⟩⟩ y n cap cs rfl HCl.out ?_ ?_ ?_ ?_)
    · exact fun j u hu => HCy.out _ (HM0.out.alloc) j u hu
    · exact H1.out
    · omega
    · intro w2 hown2 hgrow2
      have HF := Lib.hid (show Fil w2 g 59 (room3 cs [.string z0, .int .i64 z1, .int .i64 z2, .int .i64 z3, .int .i64 z4, .string z5, .string z6]) ((n + 0) * 7) by
        rw [hg]
        exact own_fil (n := n) (c := n + 3) (cs := cs) (s := 7) (by simpa using hown2) rfl rfl)
      have HX := Lib.hid (show Blk w2 bX 59 #[.string z0, .int .i64 z1, .int .i64 z2, .int .i64 z3, .int .i64 z4, .string z5, .string z6] by
        rw [hbX]
        exact (hgrow2.block w.heap.size (by simp; omega) (by intro e; injection e with e; omega)).trans (HX0.out.alloc _))
      have HB2 := Lib.hid (show Mor w w2 from grown_morR (HM0.out.alloc (o := .cells mk 59)) hgrow2 (by omega))
      clear hown2 hgrow2 hmk3
      rw [← hg, ← hbX]
      clear HX0 HM0 HMl hg hbX HBX HCy H1
      go_wp2
      go_loopw [13] (fun i wr => ∃ k : Nat, k ≤ 3 ∧ i = .int .i64 k ∧ Hid (Fil wr g 59 (room3 cs [.string z0, .int .i64 z1, .int .i64 z2, .int .i64 z3, .int .i64 z4, .string z5, .string z6]) ((n + k) * 7)) ∧ Hid (Blk wr bX 59 #[.string z0, .int .i64 z1, .int .i64 z2, .int .i64 z3, .int .i64 z4, .string z5, .string z6]) ∧ Hid (Mor w wr)) (fun i _ => 3 - (intOf i).toNat)
      case atStart => exact ⟨0, Nat.zero_le _, rfl, HF, HX, HB2⟩
      case round =>
        obtain ⟨k, hk, rfl, HBk, HXk, HMk⟩ := hrel
        by_cases hlt : k < 3
        · have hki : (k : Int) < 3 := by omega
          have hk0 : (0 : Int) ≤ (k : Int) := by omega
          obtain ⟨r, hr⟩ : ∃ r : Nat, r = n + k := ⟨_, rfl⟩
          have hrn : r < n + 3 := by omega
          have e4 : IntKind.i64.wrap ((n : Int) + (k : Int)) = (r : Int) := by rw [IntKind.wrap_i64]; omega
          have hr1 : (r : Int) < ((n + 3 : Nat) : Int) := by omega
          have hr0 : (0 : Int) ≤ (r : Int) := by omega
          obtain ⟨ds, hds, hsz, hdj⟩ := HBk.out
          have htl : (room3 cs [.string z0, .int .i64 z1, .int .i64 z2, .int .i64 z3, .int .i64 z4, .string z5, .string z6]).length = (n + 3) * 7 := by rw [room3_len, HCl.out]; simp; try omega
          have hbx : bX < wr.heap.size := HXk.out.lt
          have hgl : g < wr.heap.size := hds.lt
          have x0 : wr.cell? ⟨bX, 0, none⟩ = some (.string z0) := by rw [HXk.out.cell]; rfl
          have x1 : wr.cell? ⟨bX, 1, none⟩ = some (.int .i64 z1) := by rw [HXk.out.cell]; rfl
          have x2 : wr.cell? ⟨bX, 2, none⟩ = some (.int .i64 z2) := by rw [HXk.out.cell]; rfl
          have x3 : wr.cell? ⟨bX, 3, none⟩ = some (.int .i64 z3) := by rw [HXk.out.cell]; rfl
          have x4 : wr.cell? ⟨bX, 4, none⟩ = some (.int .i64 z4) := by rw [HXk.out.cell]; rfl
          have x5 : wr.cell? ⟨bX, 5, none⟩ = some (.string z5) := by rw [HXk.out.cell]; rfl
          have x6 : wr.cell? ⟨bX, 6, none⟩ = some (.string z6) := by rw [HXk.out.cell]; rfl
          have hf : ∀ o, wr.frozen? ⟨g, o, none⟩ = false := fun o => hds.frozen o
          obtain ⟨y0, c0⟩ := blk_some hds (r * 7) (by omega)
          obtain ⟨y1, c1⟩ := blk_some hds (r * 7 + 1) (by omega)
          obtain ⟨y2, c2⟩ := blk_some hds (r * 7 + 2) (by omega)
          obtain ⟨y3, c3⟩ := blk_some hds (r * 7 + 3) (by omega)
          obtain ⟨y4, c4⟩ := blk_some hds (r * 7 + 4) (by omega)
          obtain ⟨y5, c5⟩ := blk_some hds (r * 7 + 5) (by omega)
          obtain ⟨y6, c6⟩ := blk_some hds (r * 7 + 6) (by omega)
          have hnx := Fil.next (us := [.string z0, .int .i64 z1, .int .i64 z2, .int .i64 z3, .int .i64 z4, .string z5, .string z6]) hsz hdj (by rw [htl]; simp; try omega) (fun i hi => room3_get cs [.string z0, .int .i64 z1, .int .i64 z2, .int .i64 z3, .int .i64 z4, .string z5, .string z6] HCl.out rfl k i (by omega) (by simpa using hi))
          have HNx := Lib.hid (show (setL ds (r * 7) [.string z0, .int .i64 z1, .int .i64 z2, .int .i64 z3, .int .i64 z4, .string z5, .string z6]).size = (room3 cs [.string z0, .int .i64 z1, .int .i64 z2, .int .i64 z3, .int .i64 z4, .string z5, .string z6]).length ∧ ∀ j, j < (n + (k + 1)) * 7 → (setL ds (r * 7) [.string z0, .int .i64 z1, .int .i64 z2, .int .i64 z3, .int .i64 z4, .string z5, .string z6])[j]? = (room3 cs [.string z0, .int .i64 z1, .int .i64 z2, .int .i64 z3, .int .i64 z4, .string z5, .string z6])[j]? from by
            have e6 : (n + k) * 7 = r * 7 := by rw [hr]
            rw [e6] at hnx
            refine ⟨hnx.1, fun j hj => hnx.2 j ?_⟩
            simp only [List.length_cons, List.length_nil]
            omega)
          have hny := HNx.out
          simp only [setL, Nat.add_assoc, Nat.reduceAdd] at hny
          have HNy := Lib.hid hny
          clear HBk HNx
          have HDs := Lib.hid hds
          clear hds hsz hdj hnx hny htl hr
          go_wp2
          go_region
          go_wp2
          go_roundw
          case rel => exact ⟨k + 1, hlt, by go_num, Lib.hid (show Fil _ g 59 (room3 cs [.string z0, .int .i64 z1, .int .i64 z2, .int .i64 z3, .int .i64 z4, .string z5, .string z6]) ((n + (k + 1)) * 7) from ⟨_, Blk.drew (Blk.set_ (Blk.set_ (Blk.set_ (Blk.set_ (Blk.set_ (Blk.set_ (Blk.set_ HDs.out (r * 7) (.string z0)) (r * 7 + 1) (.int .i64 z1)) (r * 7 + 2) (.int .i64 z2)) (r * 7 + 3) (.int .i64 z3)) (r * 7 + 4) (.int .i64 z4)) (r * 7 + 5) (.string z5)) (r * 7 + 6) (.string z6)), HNy.out⟩), Lib.hid (by exact Blk.drew (blk_off (i := r * 7 + 6) (u := .string z6) (blk_off (i := r * 7 + 5) (u := .string z5) (blk_off (i := r * 7 + 4) (u := .int .i64 z4) (blk_off (i := r * 7 + 3) (u := .int .i64 z3) (blk_off (i := r * 7 + 2) (u := .int .i64 z2) (blk_off (i := r * 7 + 1) (u := .int .i64 z1) (blk_off (i := r * 7) (u := .string z0) HXk.out hgX) hgX) hgX) hgX) hgX) hgX) hgX)), Lib.hid (Mor.drew (Mor.of_below (Below.setCell (p := (⟨g, r * 7 + 6, none⟩ : Addr)) (Below.setCell (p := (⟨g, r * 7 + 5, none⟩ : Addr)) (Below.setCell (p := (⟨g, r * 7 + 4, none⟩ : Addr)) (Below.setCell (p := (⟨g, r * 7 + 3, none⟩ : Addr)) (Below.setCell (p := (⟨g, r * 7 + 2, none⟩ : Addr)) (Below.setCell (p := (⟨g, r * 7 + 1, none⟩ : Addr)) (Below.setCell (p := (⟨g, r * 7, none⟩ : Addr)) HMk.out.below (by exact HG.out) (.string z0)) (by exact HG.out) (.int .i64 z1)) (by exact HG.out) (.int .i64 z2)) (by exact HG.out) (.int .i64 z3)) (by exact HG.out) (.int .i64 z4)) (by exact HG.out) (.string z5)) (by exact HG.out) (.string z6))))⟩
          case measure => simp [intOf]; omega
        · obtain rfl : k = 3 := by omega
          have HBf := Lib.hid (show Blk wr g 59 (room3 cs [.string z0, .int .i64 z1, .int .i64 z2, .int .i64 z3, .int .i64 z4, .string z5, .string z6]).toArray from HBk.out.all (by rw [room3_len, HCl.out]; simp; try omega))
          go_wp2
          go_ret
          exact ⟨g, rfl, HG.out, HMk.out, HBf.out⟩

set_option maxHeartbeats 3200000 in
theorem marked_pl (g n : Nat) (cs : List Value) (z0 : ByteArray) (z1 : Int) (z2 : Int) (z3 : Int) (z4 : Int) (z5 : ByteArray) (z6 : ByteArray) (w : World) (h : Blk w g 59 (room3 cs [.string z0, .int .i64 z1, .int .i64 z2, .int .i64 z3, .int .i64 z4, .string z5, .string z6]).toArray) (hn : cs.length = n * 7) (hl : n ≤ 1759218604441) :
    Calls Tryd.prog 39 #[.slice (some ⟨g, 0, none⟩) n (n + 3), .agg #[.string z0, .int .i64 z1, .int .i64 z2, .int .i64 z3, .int .i64 z4, .string z5, .string z6]] w fun e w' => e = .returned (.bool true) ∧ Mor w w' := by
  have HC := Lib.hid (fun (W : World) (hW : Mor w W) (k : Nat) (hk : k < 3) (i : Nat) (hi : i < 7) (u : Value) (hu : ([.string z0, .int .i64 z1, .int .i64 z2, .int .i64 z3, .int .i64 z4, .string z5, .string z6] : List Value)[i]? = some u) => show W.cell? ⟨g, (n + k) * 7 + i, none⟩ = some u from blk_at (h.below hW.below h.lt) _ ((room3_get cs [.string z0, .int .i64 z1, .int .i64 z2, .int .i64 z3, .int .i64 z4, .string z5, .string z6] hn rfl k i hk hi).trans hu))
  have HGl := Lib.hid h.lt
  have HX0 := Lib.hid (Blk.new w 59 #[.string z0, .int .i64 z1, .int .i64 z2, .int .i64 z3, .int .i64 z4, .string z5, .string z6])
  have HM0 := Lib.hid ((Mor.refl w).alloc (o := .cells #[.string z0, .int .i64 z1, .int .i64 z2, .int .i64 z3, .int .i64 z4, .string z5, .string z6] 59))
  clear h hn
  have e3 : n + 3 - n = 3 := by omega
  obtain ⟨bX, hbX⟩ : ∃ bX, bX = w.heap.size := ⟨_, rfl⟩
  go_enter Tryd.func39, Tryd.ntmps39
  go_wp2
  generalize w.alloc (.cells #[.string z0, .int .i64 z1, .int .i64 z2, .int .i64 z3, .int .i64 z4, .string z5, .string z6] 59) = w2 at *
  rw [← hbX] at HX0
  rw [← hbX]
  clear hbX
  go_loopw [14] (fun i wr => ∃ k : Nat, k ≤ 3 ∧ i = .int .i64 k ∧ Hid (Blk wr bX 59 #[.string z0, .int .i64 z1, .int .i64 z2, .int .i64 z3, .int .i64 z4, .string z5, .string z6]) ∧ Hid (Mor w wr)) (fun i _ => 3 - (intOf i).toNat)
  case atStart => exact ⟨0, Nat.zero_le _, rfl, HX0, HM0⟩
  case round =>
    obtain ⟨k, hk, rfl, HXk, HMk⟩ := hrel
    by_cases hlt : k < 3
    · have hki : (k : Int) < 3 := by omega
      have hk0 : (0 : Int) ≤ (k : Int) := by omega
      have hbx : bX < wr.heap.size := HXk.out.lt
      have hgl : g < wr.heap.size := by have := HGl.out; have := HMk.out.below.size; omega
      have x0 : wr.cell? ⟨bX, 0, none⟩ = some (.string z0) := by rw [HXk.out.cell]; rfl
      have y0 : wr.cell? ⟨g, n * 7 + k * 7, none⟩ = some (.string z0) := by have := HC.out wr HMk.out k (by omega) 0 (by omega) _ rfl; rw [Nat.add_mul] at this; simpa using this
      have x1 : wr.cell? ⟨bX, 1, none⟩ = some (.int .i64 z1) := by rw [HXk.out.cell]; rfl
      have y1 : wr.cell? ⟨g, n * 7 + k * 7 + 1, none⟩ = some (.int .i64 z1) := by have := HC.out wr HMk.out k (by omega) 1 (by omega) _ rfl; rw [Nat.add_mul] at this; simpa using this
      have x2 : wr.cell? ⟨bX, 2, none⟩ = some (.int .i64 z2) := by rw [HXk.out.cell]; rfl
      have y2 : wr.cell? ⟨g, n * 7 + k * 7 + 2, none⟩ = some (.int .i64 z2) := by have := HC.out wr HMk.out k (by omega) 2 (by omega) _ rfl; rw [Nat.add_mul] at this; simpa using this
      have x3 : wr.cell? ⟨bX, 3, none⟩ = some (.int .i64 z3) := by rw [HXk.out.cell]; rfl
      have y3 : wr.cell? ⟨g, n * 7 + k * 7 + 3, none⟩ = some (.int .i64 z3) := by have := HC.out wr HMk.out k (by omega) 3 (by omega) _ rfl; rw [Nat.add_mul] at this; simpa using this
      have x4 : wr.cell? ⟨bX, 4, none⟩ = some (.int .i64 z4) := by rw [HXk.out.cell]; rfl
      have y4 : wr.cell? ⟨g, n * 7 + k * 7 + 4, none⟩ = some (.int .i64 z4) := by have := HC.out wr HMk.out k (by omega) 4 (by omega) _ rfl; rw [Nat.add_mul] at this; simpa using this
      have x5 : wr.cell? ⟨bX, 5, none⟩ = some (.string z5) := by rw [HXk.out.cell]; rfl
      have y5 : wr.cell? ⟨g, n * 7 + k * 7 + 5, none⟩ = some (.string z5) := by have := HC.out wr HMk.out k (by omega) 5 (by omega) _ rfl; rw [Nat.add_mul] at this; simpa using this
      have x6 : wr.cell? ⟨bX, 6, none⟩ = some (.string z6) := by rw [HXk.out.cell]; rfl
      have y6 : wr.cell? ⟨g, n * 7 + k * 7 + 6, none⟩ = some (.string z6) := by have := HC.out wr HMk.out k (by omega) 6 (by omega) _ rfl; rw [Nat.add_mul] at this; simpa using this
      have HXn := Lib.hid (fun (W : World) (hW : Mor wr W) => show Blk W bX 59 #[.string z0, .int .i64 z1, .int .i64 z2, .int .i64 z3, .int .i64 z4, .string z5, .string z6] from HXk.out.below hW.below HXk.out.lt)
      go_wp2
      go_roundw
      case rel => exact ⟨k + 1, hlt, by go_num, Lib.hid (HXn.out _ (Mor.refl _).alloc), Lib.hid HMk.out.alloc⟩
      case measure => simp [intOf]; omega
    · obtain rfl : k = 3 := by omega
      go_wp2
      go_returns
      exact ⟨rfl, HMk.out⟩

set_option maxHeartbeats 3200000 in
theorem spoil_pl (g n cap : Nat) (cs : Array Value) (z0 : ByteArray) (z1 : Int) (z2 : Int) (z3 : Int) (z4 : Int) (z5 : ByteArray) (z6 : ByteArray) (w : World) (hb : Blk w g 59 cs) (hl : cs.size = cap * 7) (hn : n ≤ cap) (hm : cap ≤ maxLen) :
    Calls Tryd.prog 45 #[.slice (some ⟨g, 0, none⟩) n cap, .agg #[.string z0, .int .i64 z1, .int .i64 z2, .int .i64 z3, .int .i64 z4, .string z5, .string z6]] w fun e w' => e = .returned (.tuple #[]) ∧ w.grownBy w' (some g) := by
  have HB := Lib.hid hb
  have HL := Lib.hid hl
  have hmx : (cap : Int) ≤ 9223372036854775807 := by unfold maxLen at hm; omega
  have HX := Lib.hid (Blk.new w 59 #[.string z0, .int .i64 z1, .int .i64 z2, .int .i64 z3, .int .i64 z4, .string z5, .string z6])
  have HG := Lib.hid (World.grownBy_alloc w (.cells #[.string z0, .int .i64 z1, .int .i64 z2, .int .i64 z3, .int .i64 z4, .string z5, .string z6] 59) (some g))
  have HBa := Lib.hid (hb.alloc (.cells #[.string z0, .int .i64 z1, .int .i64 z2, .int .i64 z3, .int .i64 z4, .string z5, .string z6] 59))
  have hgw := hb.lt
  clear hb hl hm
  obtain ⟨bX, hX⟩ : ∃ bX, bX = w.heap.size := ⟨_, rfl⟩
  have hgX : g ≠ bX := by omega
  go_enter Tryd.func45, Tryd.ntmps45
  go_wp2
  generalize w.alloc (.cells #[.string z0, .int .i64 z1, .int .i64 z2, .int .i64 z3, .int .i64 z4, .string z5, .string z6] 59) = w0 at *
  rw [← hX] at HX
  rw [← hX]
  clear hX hgw
  go_loopw [11] (fun i wr => ∃ k : Nat, k ≤ cap ∧ i = .int .i64 k ∧ Hid (∃ ds, Blk wr g 59 ds ∧ ds.size = cap * 7) ∧ Hid (Blk wr bX 59 #[.string z0, .int .i64 z1, .int .i64 z2, .int .i64 z3, .int .i64 z4, .string z5, .string z6]) ∧ Hid (w.grownBy wr (some g))) (fun i _ => cap - (intOf i).toNat)
  case atStart => exact ⟨0, Nat.zero_le _, rfl, Lib.hid ⟨_, HBa.out, HL.out⟩, HX, HG⟩
  case round =>
    obtain ⟨k, hk, rfl, HBk, HXk, HGk⟩ := hrel
    obtain ⟨ds, hds, hsz⟩ := HBk.out
    by_cases hlt : k < cap
    · have hki : (k : Int) < (cap : Int) := by omega
      have hf : ∀ o, wr.frozen? ⟨g, o, none⟩ = false := fun o => hds.frozen o
      have hg : g < wr.heap.size := hds.lt
      have hbx : bX < wr.heap.size := HXk.out.lt
      have x0 : wr.cell? ⟨bX, 0, none⟩ = some (.string z0) := by rw [HXk.out.cell]; rfl
      have x1 : wr.cell? ⟨bX, 1, none⟩ = some (.int .i64 z1) := by rw [HXk.out.cell]; rfl
      have x2 : wr.cell? ⟨bX, 2, none⟩ = some (.int .i64 z2) := by rw [HXk.out.cell]; rfl
      have x3 : wr.cell? ⟨bX, 3, none⟩ = some (.int .i64 z3) := by rw [HXk.out.cell]; rfl
      have x4 : wr.cell? ⟨bX, 4, none⟩ = some (.int .i64 z4) := by rw [HXk.out.cell]; rfl
      have x5 : wr.cell? ⟨bX, 5, none⟩ = some (.string z5) := by rw [HXk.out.cell]; rfl
      have x6 : wr.cell? ⟨bX, 6, none⟩ = some (.string z6) := by rw [HXk.out.cell]; rfl
      obtain ⟨y0, c0⟩ := blk_some hds (k * 7) (by omega)
      obtain ⟨y1, c1⟩ := blk_some hds (k * 7 + 1) (by omega)
      obtain ⟨y2, c2⟩ := blk_some hds (k * 7 + 2) (by omega)
      obtain ⟨y3, c3⟩ := blk_some hds (k * 7 + 3) (by omega)
      obtain ⟨y4, c4⟩ := blk_some hds (k * 7 + 4) (by omega)
      obtain ⟨y5, c5⟩ := blk_some hds (k * 7 + 5) (by omega)
      obtain ⟨y6, c6⟩ := blk_some hds (k * 7 + 6) (by omega)
      clear HBk
      have HDs := Lib.hid hds
      have HSz := Lib.hid hsz
      clear hds hsz
      go_wp2
      go_roundw
      case rel => exact ⟨k + 1, hlt, by go_num, Lib.hid ⟨_, (Blk.set_ (Blk.set_ (Blk.set_ (Blk.set_ (Blk.set_ (Blk.set_ (Blk.set_ HDs.out (k * 7) (.string z0)) (k * 7 + 1) (.int .i64 z1)) (k * 7 + 2) (.int .i64 z2)) (k * 7 + 3) (.int .i64 z3)) (k * 7 + 4) (.int .i64 z4)) (k * 7 + 5) (.string z5)) (k * 7 + 6) (.string z6)), (set_size _ _ _ (set_size _ _ _ (set_size _ _ _ (set_size _ _ _ (set_size _ _ _ (set_size _ _ _ (set_size _ _ _ HSz.out)))))))⟩, Lib.hid (blk_off (i := k * 7 + 6) (u := .string z6) (blk_off (i := k * 7 + 5) (u := .string z5) (blk_off (i := k * 7 + 4) (u := .int .i64 z4) (blk_off (i := k * 7 + 3) (u := .int .i64 z3) (blk_off (i := k * 7 + 2) (u := .int .i64 z2) (blk_off (i := k * 7 + 1) (u := .int .i64 z1) (blk_off (i := k * 7) (u := .string z0) HXk.out hgX) hgX) hgX) hgX) hgX) hgX) hgX), Lib.hid (grown_set (i := k * 7 + 6) (u := .string z6) (grown_set (i := k * 7 + 5) (u := .string z5) (grown_set (i := k * 7 + 4) (u := .int .i64 z4) (grown_set (i := k * 7 + 3) (u := .int .i64 z3) (grown_set (i := k * 7 + 2) (u := .int .i64 z2) (grown_set (i := k * 7 + 1) (u := .int .i64 z1) (grown_set (i := k * 7) (u := .string z0) HGk.out)))))))⟩
      case measure => simp [intOf]; omega
    · obtain rfl : k = cap := by omega
      clear hds hsz
      go_wp2
      go_returns
      exact ⟨rfl, HGk.out⟩


end Go.Proofs.YtahegjhjonodlaaDoor

/- talkeep.roomy, marked, spoil at tallage/api.Line (printed by groom.py). -/
namespace Go.Proofs.YtahegjhjonodlaaDoor
open Go.ChangeShapes Go.WideShapes Go.ChangeAt Go.RowKit
set_option linter.unusedVariables false
set_option maxRecDepth 100000

set_option maxHeartbeats 3200000 in
theorem spoil_ln (g n cap : Nat) (cs : Array Value) (z0 : ByteArray) (z1 : Int) (w : World) (hb : Blk w g 87 cs) (hl : cs.size = cap * 2) (hn : n ≤ cap) (hm : cap ≤ maxLen) :
    Calls Tryd.prog 48 #[.slice (some ⟨g, 0, none⟩) n cap, .agg #[.string z0, .int .i64 z1]] w fun e w' => e = .returned (.tuple #[]) ∧ w.grownBy w' (some g) := by
  have HB := Lib.hid hb
  have HL := Lib.hid hl
  have hmx : (cap : Int) ≤ 9223372036854775807 := by unfold maxLen at hm; omega
  have HX := Lib.hid (Blk.new w 87 #[.string z0, .int .i64 z1])
  have HG := Lib.hid (World.grownBy_alloc w (.cells #[.string z0, .int .i64 z1] 87) (some g))
  have HBa := Lib.hid (hb.alloc (.cells #[.string z0, .int .i64 z1] 87))
  have hgw := hb.lt
  clear hb hl hm
  obtain ⟨bX, hX⟩ : ∃ bX, bX = w.heap.size := ⟨_, rfl⟩
  have hgX : g ≠ bX := by omega
  go_enter Tryd.func48, Tryd.ntmps48
  go_wp2
  generalize w.alloc (.cells #[.string z0, .int .i64 z1] 87) = w0 at *
  rw [← hX] at HX
  rw [← hX]
  clear hX hgw
  go_loopw [11] (fun i wr => ∃ k : Nat, k ≤ cap ∧ i = .int .i64 k ∧ Hid (∃ ds, Blk wr g 87 ds ∧ ds.size = cap * 2) ∧ Hid (Blk wr bX 87 #[.string z0, .int .i64 z1]) ∧ Hid (w.grownBy wr (some g))) (fun i _ => cap - (intOf i).toNat)
  case atStart => exact ⟨0, Nat.zero_le _, rfl, Lib.hid ⟨_, HBa.out, HL.out⟩, HX, HG⟩
  case round =>
    obtain ⟨k, hk, rfl, HBk, HXk, HGk⟩ := hrel
    obtain ⟨ds, hds, hsz⟩ := HBk.out
    by_cases hlt : k < cap
    · have hki : (k : Int) < (cap : Int) := by omega
      have hf : ∀ o, wr.frozen? ⟨g, o, none⟩ = false := fun o => hds.frozen o
      have hg : g < wr.heap.size := hds.lt
      have hbx : bX < wr.heap.size := HXk.out.lt
      have x0 : wr.cell? ⟨bX, 0, none⟩ = some (.string z0) := by rw [HXk.out.cell]; rfl
      have x1 : wr.cell? ⟨bX, 1, none⟩ = some (.int .i64 z1) := by rw [HXk.out.cell]; rfl
      obtain ⟨y0, c0⟩ := blk_some hds (k * 2) (by omega)
      obtain ⟨y1, c1⟩ := blk_some hds (k * 2 + 1) (by omega)
      clear HBk
      have HDs := Lib.hid hds
      have HSz := Lib.hid hsz
      clear hds hsz
      go_wp2
      go_roundw
      case rel => exact ⟨k + 1, hlt, by go_num, Lib.hid ⟨_, (Blk.set_ (Blk.set_ HDs.out (k * 2) (.string z0)) (k * 2 + 1) (.int .i64 z1)), (set_size _ _ _ (set_size _ _ _ HSz.out))⟩, Lib.hid (blk_off (i := k * 2 + 1) (u := .int .i64 z1) (blk_off (i := k * 2) (u := .string z0) HXk.out hgX) hgX), Lib.hid (grown_set (i := k * 2 + 1) (u := .int .i64 z1) (grown_set (i := k * 2) (u := .string z0) HGk.out))⟩
      case measure => simp [intOf]; omega
    · obtain rfl : k = cap := by omega
      clear hds hsz
      go_wp2
      go_returns
      exact ⟨rfl, HGk.out⟩


set_option maxHeartbeats 1600000 in
theorem spoil_nil_ln (z0 : ByteArray) (z1 : Int) (w : World) : Calls Tryd.prog 48 #[.slice none 0 0, .agg #[.string z0, .int .i64 z1]] w fun e w' => e = .returned (.tuple #[]) ∧ Mor w w' := by
  go_enter Tryd.func48, Tryd.ntmps48
  go_wp2
  refine wp_loop_rounds 1 ?_
  repeat (
    rw [rounds_succ]
    go_wp2_with fail)
  go_returns
  exact ⟨rfl, (Mor.refl _).alloc⟩
/-- a row of one's own is spoilt: nothing else is changed -/
theorem spoil_own_ln (z0 : ByteArray) (z1 : Int) {B n : Nat} {A : Option Addr} {c : Nat} {xs : List Value} {w : World} (h : w.ownsRow B 87 2 (.slice A n c) n xs) :
    Calls Tryd.prog 48 #[.slice A n c, .agg #[.string z0, .int .i64 z1]] w fun e w' => e = .returned (.tuple #[]) ∧ w.grownBy w' (Value.slice A n c).ownBlock := by
  obtain ⟨hl, ⟨hv, hn⟩ | ⟨g, cap, cur, hv, hg, hh, h1, h2, h3, h4⟩⟩ := h
  · rw [hv]
    refine (spoil_nil_ln z0 z1 w).mono ?_
    rintro e w' ⟨rfl, hm⟩
    exact ⟨rfl, grown_mor hm none⟩
  · rw [hv]
    exact spoil_ln g n cap cur z0 z1 w hh h3 h1 h2

end Go.Proofs.YtahegjhjonodlaaDoor
