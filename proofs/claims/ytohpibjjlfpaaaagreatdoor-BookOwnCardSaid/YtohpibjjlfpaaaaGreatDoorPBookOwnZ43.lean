/- Rows whose room is filled, cell by cell. -/
import Derived.Test.YtohpibjjlfpaaaaGreatDoorPBookOwnZ1
import Derived.Test.YtohpibjjlfpaaaaGreatDoorPBookOwnZ2
import Derived.Test.YtohpibjjlfpaaaaGreatDoorPBookOwnZ3
import Derived.Test.YtohpibjjlfpaaaaGreatDoorPBookOwnZ4
import Derived.Test.YtohpibjjlfpaaaaGreatDoorPBookOwnZ5
import Derived.Test.YtohpibjjlfpaaaaGreatDoorPBookOwnZ6
import Derived.Test.YtohpibjjlfpaaaaGreatDoorPBookOwnZ9
import Derived.Test.YtohpibjjlfpaaaaGreatDoorPBookOwnZ10
import Derived.Test.YtohpibjjlfpaaaaGreatDoorPBookOwnZ11
import Derived.Test.YtohpibjjlfpaaaaGreatDoorPBookOwnZ12
import Derived.Test.YtohpibjjlfpaaaaGreatDoorPBookOwnZ13
import Derived.Test.YtohpibjjlfpaaaaGreatDoorPBookOwnZ35
import Derived.Test.YtohpibjjlfpaaaaGreatDoorPBookOwnZ40
import Derived.Test.YtohpibjjlfpaaaaGreatDoorPBookOwnZ41
import Derived.Test.YtohpibjjlfpaaaaGreatDoorPBookOwnZ42
import Derived.Test.YtohpibjjlfpaaaaGreatDoorRows
import Derived.BigQuiet
import Derived.DataElems
import Derived.Deep.AppendSrc
import Derived.Deep.DeepAppendRoom
import Derived.Deep.LoopGhost
import Derived.Deep.OwnRows
import Derived.Deep.QuietTactic
import Derived.Deep.RegionLaw
import Derived.Deep.SlicePairs
import Derived.Deep.Slices
import Derived.Deep.Strs
import Derived.Handy
import Derived.Laws.Cover1
import Derived.Lib.Bytealg
import Derived.Lib.Hide
import Derived.Lib.SliceRun
import Derived.Lib.Walk
import Derived.OpenShut
import Derived.Outline
import Derived.OwnWalk
import Derived.PlainAid
import Derived.ProofKit
import Derived.RegionTactic
import Derived.Shelf.Abstract
import Derived.Sort.Walk0
import Derived.WalkKit
import Derived.WalkSpells
namespace Go.Proofs.YtohpibjjlfpaaaaGreatDoor
open Go.ChangeShapes Go.WideShapes Go.ChangeAt Go.RowKit
set_option linter.unusedVariables false
set_option maxRecDepth 100000

theorem szAl (w : World) (o : Obj) : (w.alloc o).heap.size = w.heap.size + 1 := by show (w.heap.push o).size = _; simp
/-- us stored at b and behind -/
def setL (ds : Array Value) (b : Nat) : List Value → Array Value
  | [] => ds
  | u :: us => setL (ds.setIfInBounds b u) (b + 1) us
theorem setL_size (us : List Value) : ∀ (ds : Array Value) (b : Nat), (setL ds b us).size = ds.size := by
  induction us with
  | nil => intro ds b; rfl
  | cons u us ih => intro ds b; rw [setL, ih, Array.size_setIfInBounds]
theorem setL_get (us : List Value) : ∀ (ds : Array Value) (b j : Nat), b + us.length ≤ ds.size → (setL ds b us)[j]? = if b ≤ j ∧ j < b + us.length then us[j - b]? else ds[j]? := by
  induction us with
  | nil => intro ds b j h; rw [setL, if_neg (by simp)]
  | cons u us ih =>
    intro ds b j h
    simp only [List.length_cons] at h
    rw [setL, ih _ _ _ (by rw [Array.size_setIfInBounds]; omega), Array.getElem?_setIfInBounds]
    simp only [List.length_cons]
    by_cases h1 : b = j
    · subst h1
      rw [if_neg (by omega), if_pos rfl, if_pos (by omega), if_pos (by omega), Nat.sub_self]; rfl
    · rw [if_neg h1]
      by_cases h2 : b + 1 ≤ j ∧ j < b + 1 + us.length
      · rw [if_pos h2, if_pos (by omega), show j - b = (j - (b + 1)) + 1 by omega, List.getElem?_cons_succ]
      · rw [if_neg h2, if_neg (by omega)]
/-- the first m cells of a row are those of tot -/
def Fil (w : World) (g : Nat) (t : TypeId) (tot : List Value) (m : Nat) : Prop := ∃ ds, Blk w g t ds ∧ ds.size = tot.length ∧ ∀ j, j < m → ds[j]? = tot[j]?
theorem Fil.next {ds : Array Value} {tot us : List Value} {m : Nat} (h1 : ds.size = tot.length) (h2 : ∀ j, j < m → ds[j]? = tot[j]?) (hl : m + us.length ≤ tot.length) (hu : ∀ i, i < us.length → tot[m + i]? = us[i]?) :
    (setL ds m us).size = tot.length ∧ ∀ j, j < m + us.length → (setL ds m us)[j]? = tot[j]? := by
  refine ⟨by rw [setL_size, h1], fun j hj => ?_⟩
  rw [setL_get _ _ _ _ (by omega)]
  by_cases h : m ≤ j
  · rw [if_pos ⟨h, hj⟩, ← hu (j - m) (by omega), show m + (j - m) = j by omega]
  · rw [if_neg (by omega), h2 j (by omega)]
theorem Fil.all {w : World} {g : Nat} {t : TypeId} {tot : List Value} {m : Nat} (h : Fil w g t tot m) (hm : m = tot.length) : Blk w g t tot.toArray := by
  obtain ⟨ds, h1, h2, h3⟩ := h
  have : ds = tot.toArray := by
    apply Array.ext_getElem?
    intro i
    by_cases hi : i < m
    · rw [h3 i hi, List.getElem?_toArray]
    · rw [Array.getElem?_eq_none (by omega), Array.getElem?_eq_none (by simp; omega)]
  rw [← this]; exact h1
/-- a row with room of three behind it -/
def room3 (cs us : List Value) : List Value := cs ++ (us ++ (us ++ us))
theorem room3_len (cs us : List Value) : (room3 cs us).length = cs.length + us.length * 3 := by simp [room3]; omega
theorem room3_get (cs us : List Value) {n s : Nat} (hc : cs.length = n * s) (hu : us.length = s) (k i : Nat) (hk : k < 3) (hi : i < s) : (room3 cs us)[(n + k) * s + i]? = us[i]? := by
  unfold room3
  have e : (n + k) * s = n * s + k * s := Nat.add_mul n k s
  rw [List.getElem?_append_right (by omega), hc, show (n + k) * s + i - n * s = k * s + i by omega]
  match k, hk with
  | 0, _ => rw [Nat.zero_mul, Nat.zero_add, List.getElem?_append_left (by omega)]
  | 1, _ => rw [Nat.one_mul, List.getElem?_append_right (by omega), hu, show s + i - s = i by omega, List.getElem?_append_left (by omega)]
  | 2, _ => rw [List.getElem?_append_right (by omega), hu, List.getElem?_append_right (by omega), hu, show 2 * s + i - s - s = i by omega]
theorem room3_old (cs us : List Value) (j : Nat) (h : j < cs.length) : (room3 cs us)[j]? = cs[j]? := by unfold room3; rw [List.getElem?_append_left h]
/-- a row of one's own with room, of s cells each -/
theorem own_fil {w : World} {B g n c s : Nat} {t : TypeId} {cs us : List Value} (h : w.ownsRow B t s (.slice (some ⟨g, 0, none⟩) n c) n cs) (hc : c = n + 3) (hu : us.length = s) : Fil w g t (room3 cs us) (n * s) := by
  subst hc
  obtain ⟨hl, h | ⟨g', cap', cur, hv, hg, hh, h1, h2, h3, h4⟩⟩ := h
  · cases h.1
  · cases hv
    refine ⟨cur, by exact hh, by rw [h3, room3_len, hl, hu, Nat.add_mul, Nat.mul_comm s 3], fun j hj => ?_⟩
    rw [room3_old _ _ _ (by omega), ← h4, List.getElem?_take, if_pos hj, Array.getElem?_toList]
def RoomPost3 (t : TypeId) (w : World) (n : Nat) (cs us : List Value) (e : Ending) (w' : World) : Prop :=
  ∃ g, e = .returned (.slice (some ⟨g, 0, none⟩) n (n + 3)) ∧ w.heap.size ≤ g ∧ Mor w w' ∧ Blk w' g t (room3 cs us).toArray
theorem fil_new {w : World} {t : TypeId} {mk : Array Value} {us : List Value} {s : Nat} (h : mk.size = (0 + 3) * s) (hu : us.length = s) : Fil (w.alloc (.cells mk t)) w.heap.size t (room3 [] us) ((0 + 0) * s) :=
  ⟨mk, Blk.new _ _ _, by rw [room3_len, h, hu]; simp; omega, fun j hj => by simp at hj⟩
theorem blk_at {w : World} {g : Nat} {t : TypeId} {l : List Value} (h : Blk w g t l.toArray) (i : Nat) {u : Value} (hu : l[i]? = some u) : w.cell? ⟨g, i, none⟩ = some u := by
  rw [h.cell, List.getElem?_toArray, hu]

end Go.Proofs.YtohpibjjlfpaaaaGreatDoor

/- talkeep.roomy, marked, spoil at tallage/api.Acct (printed by groom.py). -/
namespace Go.Proofs.YtohpibjjlfpaaaaGreatDoor
open Go.ChangeShapes Go.WideShapes Go.ChangeAt Go.RowKit
set_option linter.unusedVariables false
set_option maxRecDepth 100000

theorem infoG_ac : (Tryz.prog.info? 58).map (fun i => (i.zero, i.size, i.bytes)) = some (some (.agg #[.string { data := #[] }, .int .i64 0]), 2, 24) := by kernel_rfl
set_option maxHeartbeats 3200000 in
theorem roomy_ac (A : Option Addr) (n cap : Nat) (cs : List Value) (z0 : ByteArray) (z1 : Int) (w : World) (hc : ∀ (W : World), Mor w W → ∀ y, A = some y → ∀ j u, cs[j]? = some u → W.cell? (y.add j) = some u) (h1 : ∀ u ∈ cs, u.oneCell' = true) (hn : cs.length = n * 2) (h0 : A = none → n = 0) (hl : n ≤ 5864062014805) :
    Calls Tryz.prog 34 #[.slice A n cap, .agg #[.string z0, .int .i64 z1]] w (RoomPost3 58 w n cs [.string z0, .int .i64 z1]) := by
  obtain ⟨i0, hi, hz0, hz1, hz2⟩ := info_parts infoG_ac
  have e3 : IntKind.i64.wrap ((n : Int) + 3) = ((n + 3 : Nat) : Int) := by rw [IntKind.wrap_i64]; omega
  have HC := Lib.hid hc
  have HA := Lib.hid h0
  have HCl := Lib.hid hn
  have H1 := Lib.hid h1
  have HX0 := Lib.hid (Blk.new w 58 #[.string z0, .int .i64 z1])
  have HM0 := Lib.hid ((Mor.refl w).alloc (o := .cells #[.string z0, .int .i64 z1] 58))
  clear hc hn h0 h1
  have hmk3 : ∀ W : World, (Instr.makeSlice 22 (.int .i64 0) (.int .i64 ((n : Int) + 3))).run Tryz.prog W = .ok (.slice (some ⟨W.heap.size, 0, none⟩) 0 (n + 3)) (W.alloc (.cells (madeCells (Value.cells (.agg #[.string { data := #[] }, .int .i64 0])) ((n + 3) * 2)) 58)) := by
    intro W
    have hr := run_make (P := Tryz.prog) W 22 58 i0 (.agg #[.string { data := #[] }, .int .i64 0]) Tryz.underlying22 hi hz0 .i64 .i64 0 ((n + 3 : Nat) : Int) (by omega) (by omega) (by rw [hz2]; omega) (by omega)
    rw [hz1, Int.toNat_natCast, show ((n + 3 : Nat) : Int) = (n : Int) + 3 by omega] at hr
    exact hr
  generalize hZ : madeCells (Value.cells (.agg #[.string { data := #[] }, .int .i64 0])) ((n + 3) * 2) = mk at hmk3
  have HMl := Lib.hid (show mk.size = (n + 3) * 2 by rw [← hZ, size_madeCells])
  clear hZ
  obtain ⟨bX, hbX⟩ : ∃ bX, bX = w.heap.size := ⟨_, rfl⟩
  have HBX := Lib.hid hbX
  obtain ⟨g, hg⟩ : ∃ g, g = w.heap.size + 1 := ⟨_, rfl⟩
  have HG := Lib.hid (show w.heap.size ≤ g by omega)
  have hgX : g ≠ bX := by omega
  cases A with
  | none =>
    obtain rfl : n = 0 := HA.out rfl
    have hx : cs = [] := List.eq_nil_of_length_eq_zero (by simpa using HCl.out)
    subst hx
    clear HC HA H1
    have hmk4 : ∀ W : World, (Instr.makeSlice 22 (.int .i64 0) (.int .i64 3)).run Tryz.prog W = .ok (.slice (some ⟨W.heap.size, 0, none⟩) 0 3) (W.alloc (.cells mk 58)) := hmk3
    clear hmk3
    go_enter Tryz.func34, Tryz.ntmps34
    go_wp2_with (at_builtin; refine wpList_append_nilc rfl _ _ 22 rfl 58 i0 Tryz.underlying22 hi (w.heap.size + 1) 0 3 cap rfl rfl (by omega) ?_)
    have HF := Lib.hid (show Fil ((w.alloc (.cells #[.string z0, .int .i64 z1] 58)).alloc (.cells mk 58)) g 58 (room3 [] [.string z0, .int .i64 z1]) ((0 + 0) * 2) by
      have := fil_new (w := w.alloc (.cells #[.string z0, .int .i64 z1] 58)) (t := 58) (us := [.string z0, .int .i64 z1]) (s := 2) (mk := mk) HMl.out rfl
      rw [szAl] at this
      rw [hg]; exact this)
    have HX := Lib.hid (show Blk ((w.alloc (.cells #[.string z0, .int .i64 z1] 58)).alloc (.cells mk 58)) bX 58 #[.string z0, .int .i64 z1] by rw [hbX]; exact HX0.out.alloc _)
    have HB2 : Hid (Mor w ((w.alloc (.cells #[.string z0, .int .i64 z1] 58)).alloc (.cells mk 58))) := Lib.hid (HM0.out.alloc (o := .cells mk 58))
    generalize (w.alloc (.cells #[.string z0, .int .i64 z1] 58)).alloc (.cells mk 58) = w2 at *
    rw [← hg, ← hbX]
    clear hmk4 HX0 HM0 HMl hg hbX HBX
    go_wp2
    go_loopw [13] (fun i wr => ∃ k : Nat, k ≤ 3 ∧ i = .int .i64 k ∧ Hid (Fil wr g 58 (room3 [] [.string z0, .int .i64 z1]) ((0 + k) * 2)) ∧ Hid (Blk wr bX 58 #[.string z0, .int .i64 z1]) ∧ Hid (Mor w wr)) (fun i _ => 3 - (intOf i).toNat)
    case atStart => exact ⟨0, Nat.zero_le _, rfl, HF, HX, HB2⟩
    case round =>
      obtain ⟨k, hk, rfl, HBk, HXk, HMk⟩ := hrel
      by_cases hlt : k < 3
      · have hki : (k : Int) < 3 := by omega
        have hk0 : (0 : Int) ≤ (k : Int) := by omega
        have e4 : IntKind.i64.wrap (k : Int) = (k : Int) := by rw [IntKind.wrap_i64]; omega
        obtain ⟨ds, hds, hsz, hdj⟩ := HBk.out
        have htl : (room3 [] [.string z0, .int .i64 z1]).length = (0 + 3) * 2 := by rw [room3_len, HCl.out]; simp; try omega
        have hbx : bX < wr.heap.size := HXk.out.lt
        have hgl : g < wr.heap.size := hds.lt
        have x0 : wr.cell? ⟨bX, 0, none⟩ = some (.string z0) := by rw [HXk.out.cell]; rfl
        have x1 : wr.cell? ⟨bX, 1, none⟩ = some (.int .i64 z1) := by rw [HXk.out.cell]; rfl
        have hf : ∀ o, wr.frozen? ⟨g, o, none⟩ = false := fun o => hds.frozen o
        obtain ⟨y0, c0⟩ := blk_some hds (k * 2) (by omega)
        obtain ⟨y1, c1⟩ := blk_some hds (k * 2 + 1) (by omega)
        have hnx := Fil.next (us := [.string z0, .int .i64 z1]) hsz hdj (by rw [htl]; simp; try omega) (fun i hi => room3_get [] [.string z0, .int .i64 z1] HCl.out rfl k i (by omega) (by simpa using hi))
        have HNx := Lib.hid (show (setL ds (k * 2) [.string z0, .int .i64 z1]).size = (room3 [] [.string z0, .int .i64 z1]).length ∧ ∀ j, j < (0 + (k + 1)) * 2 → (setL ds (k * 2) [.string z0, .int .i64 z1])[j]? = (room3 [] [.string z0, .int .i64 z1])[j]? from by
          have e6 : (0 + k) * 2 = k * 2 := by rw [Nat.zero_add]
          rw [e6] at hnx
          refine ⟨hnx.1, fun j hj => hnx.2 j ?_⟩
          simp only [List.length_cons, List.length_nil]
          omega)
        have hny := HNx.out
        simp only [setL] at hny
        have HNy := Lib.hid hny
        clear HBk HNx
        have HDs := Lib.hid hds
        clear hds hsz hdj hnx hny htl
        go_wp2
        go_region
        go_wp2
        go_roundw
        case rel => exact ⟨k + 1, hlt, by go_num, Lib.hid (show Fil _ g 58 (room3 [] [.string z0, .int .i64 z1]) ((0 + (k + 1)) * 2) from ⟨_, Blk.drew (Blk.set_ (Blk.set_ HDs.out (k * 2) (.string z0)) (k * 2 + 1) (.int .i64 z1)), HNy.out⟩), Lib.hid (by exact Blk.drew (blk_off (i := k * 2 + 1) (u := .int .i64 z1) (blk_off (i := k * 2) (u := .string z0) HXk.out hgX) hgX)), Lib.hid (Mor.drew (Mor.of_below (Below.setCell (p := (⟨g, k * 2 + 1, none⟩ : Addr)) (Below.setCell (p := (⟨g, k * 2, none⟩ : Addr)) HMk.out.below (by exact HG.out) (.string z0)) (by exact HG.out) (.int .i64 z1))))⟩
        case measure => simp [intOf]; omega
      · obtain rfl : k = 3 := by omega
        have HBf := Lib.hid (show Blk wr g 58 (room3 [] [.string z0, .int .i64 z1]).toArray from HBk.out.all (by rw [room3_len, HCl.out]; simp; try omega))
        go_wp2
        go_ret
        exact ⟨g, rfl, HG.out, HMk.out, HBf.out⟩
  | some y =>
    have HCy := Lib.hid (fun (W : World) (hW : Mor w W) => HC.out W hW y rfl)
    clear HC HA
    go_enter Tryz.func34, Tryz.ntmps34
    go_wp2_with (at_builtin; refine wpList_append_own_spare _ rfl _ _ 22 rfl (w.heap.size + 1) 58 i0 2 Tryz.underlying22 hi hz1 (w.heap.size + 1) 0 (n + 3) [] rfl ⟨by simp, .inr ⟨w.heap.size + 1, n + 3, mk, rfl, Nat.le_refl _, (by have := heap_alloc_new (w.alloc (.cells #[.string z0, .int .i64 z1] 58)) (.cells mk 58); rw [szAl] at this; exact this), Nat.zero_le _, by unfold maxLen; omega, HMl.out, by simp⟩⟩ y n cap cs rfl HCl.out ?_ ?_ ?_ ?_)
    · exact fun j u hu => HCy.out _ (HM0.out.alloc) j u hu
    · exact H1.out
    · omega
    · intro w2 hown2 hgrow2
      have HF := Lib.hid (show Fil w2 g 58 (room3 cs [.string z0, .int .i64 z1]) ((n + 0) * 2) by
        rw [hg]
        exact own_fil (n := n) (c := n + 3) (cs := cs) (s := 2) (by simpa using hown2) rfl rfl)
      have HX := Lib.hid (show Blk w2 bX 58 #[.string z0, .int .i64 z1] by
        rw [hbX]
        exact (hgrow2.block w.heap.size (by simp; omega) (by intro e; injection e with e; omega)).trans (HX0.out.alloc _))
      have HB2 := Lib.hid (show Mor w w2 from grown_morR (HM0.out.alloc (o := .cells mk 58)) hgrow2 (by omega))
      clear hown2 hgrow2 hmk3
      rw [← hg, ← hbX]
      clear HX0 HM0 HMl hg hbX HBX HCy H1
      go_wp2
      go_loopw [13] (fun i wr => ∃ k : Nat, k ≤ 3 ∧ i = .int .i64 k ∧ Hid (Fil wr g 58 (room3 cs [.string z0, .int .i64 z1]) ((n + k) * 2)) ∧ Hid (Blk wr bX 58 #[.string z0, .int .i64 z1]) ∧ Hid (Mor w wr)) (fun i _ => 3 - (intOf i).toNat)
      case atStart => exact ⟨0, Nat.zero_le _, rfl, HF, HX, HB2⟩
      case round =>
        obtain ⟨k, hk, rfl, HBk, HXk, HMk⟩ := hrel
        by_cases hlt : k < 3
        · have hki : (k : Int) < 3 := by omega
          have hk0 : (0 : Int) ≤ (k : Int) := by omega
          obtain ⟨r, hr⟩ : ∃ r : Nat, r = n + k := ⟨_, rfl⟩
          have hrn : r < n + 3 := by omega
          have e4 : IntKind.i64.wrap ((n : Int) + (k : Int)) = (r : Int) := by rw [IntKind.wrap_i64]; omega
          have hr1 : (r : Int) < ((n + 3 : Nat) : Int) := by omega
          have hr0 : (0 : Int) ≤ (r : Int) := by omega
          obtain ⟨ds, hds, hsz, hdj⟩ := HBk.out
          have htl : (room3 cs [.string z0, .int .i64 z1]).length = (n + 3) * 2 := by rw [room3_len, HCl.out]; simp; try omega
          have hbx : bX < wr.heap.size := HXk.out.lt
          have hgl : g < wr.heap.size := hds.lt
          have x0 : wr.cell? ⟨bX, 0, none⟩ = some (.string z0) := by rw [HXk.out.cell]; rfl
          have x1 : wr.cell? ⟨bX, 1, none⟩ = some (.int .i64 z1) := by rw [HXk.out.cell]; rfl
          have hf : ∀ o, wr.frozen? ⟨g, o, none⟩ = false := fun o => hds.frozen o
          obtain ⟨y0, c0⟩ := blk_some hds (r * 2) (by omega)
          obtain ⟨y1, c1⟩ := blk_some hds (r * 2 + 1) (by omega)
          have hnx := Fil.next (us := [.string z0, .int .i64 z1]) hsz hdj (by rw [htl]; simp; try omega) (fun i hi => room3_get cs [.string z0, .int .i64 z1] HCl.out rfl k i (by omega) (by simpa using hi))
          have HNx := Lib.hid (show (setL ds (r * 2) [.string z0, .int .i64 z1]).size = (room3 cs [.string z0, .int .i64 z1]).length ∧ ∀ j, j < (n + (k + 1)) * 2 → (setL ds (r * 2) [.string z0, .int .i64 z1])[j]? = (room3 cs [.string z0, .int .i64 z1])[j]? from by
            have e6 : (n + k) * 2 = r * 2 := by rw [hr]
            rw [e6] at hnx
            refine ⟨hnx.1, fun j hj => hnx.2 j ?_⟩
            simp only [List.length_cons, List.length_nil]
            omega)
          have hny := HNx.out
          simp only [setL] at hny
          have HNy := Lib.hid hny
          clear HBk HNx
          have HDs := Lib.hid hds
          clear hds hsz hdj hnx hny htl hr
          go_wp2
          go_region
          go_wp2
          go_roundw
          case rel => exact ⟨k + 1, hlt, by go_num, Lib.hid (show Fil _ g 58 (room3 cs [.string z0, .int .i64 z1]) ((n + (k + 1)) * 2) from ⟨_, Blk.drew (Blk.set_ (Blk.set_ HDs.out (r * 2) (.string z0)) (r * 2 + 1) (.int .i64 z1)), HNy.out⟩), Lib.hid (by exact Blk.drew (blk_off (i := r * 2 + 1) (u := .int .i64 z1) (blk_off (i := r * 2) (u := .string z0) HXk.out hgX) hgX)), Lib.hid (Mor.drew (Mor.of_below (Below.setCell (p := (⟨g, r * 2 + 1, none⟩ : Addr)) (Below.setCell (p := (⟨g, r * 2, none⟩ : Addr)) HMk.out.below (by exact HG.out) (.string z0)) (by exact HG.out) (.int .i64 z1))))⟩
          case measure => simp [intOf]; omega
        · obtain rfl : k = 3 := by omega
          have HBf := Lib.hid (show Blk wr g 58 (room3 cs [.string z0, .int .i64 z1]).toArray from HBk.out.all (by rw [room3_len, HCl.out]; simp; try omega))
          go_wp2
          go_ret
          exact ⟨g, rfl, HG.out, HMk.out, HBf.out⟩

set_option maxHeartbeats 3200000 in
theorem marked_ac (g n : Nat) (cs : List Value) (z0 : ByteArray) (z1 : Int) (w : World) (h : Blk w g 58 (room3 cs [.string z0, .int .i64 z1]).toArray) (hn : cs.length = n * 2) (hl : n ≤ 5864062014805) :
    Calls Tryz.prog 19 #[.slice (some ⟨g, 0, none⟩) n (n + 3), .agg #[.string z0, .int .i64 z1]] w fun e w' => e = .returned (.bool true) ∧ Mor w w' := by
  have HC := Lib.hid (fun (W : World) (hW : Mor w W) (k : Nat) (hk : k < 3) (i : Nat) (hi : i < 2) (u : Value) (hu : ([.string z0, .int .i64 z1] : List Value)[i]? = some u) => show W.cell? ⟨g, (n + k) * 2 + i, none⟩ = some u from blk_at (h.below hW.below h.lt) _ ((room3_get cs [.string z0, .int .i64 z1] hn rfl k i hk hi).trans hu))
  have HGl := Lib.hid h.lt
  have HX0 := Lib.hid (Blk.new w 58 #[.string z0, .int .i64 z1])
  have HM0 := Lib.hid ((Mor.refl w).alloc (o := .cells #[.string z0, .int .i64 z1] 58))
  clear h hn
  have e3 : n + 3 - n = 3 := by omega
  obtain ⟨bX, hbX⟩ : ∃ bX, bX = w.heap.size := ⟨_, rfl⟩
  go_enter Tryz.func19, Tryz.ntmps19
  go_wp2
  generalize w.alloc (.cells #[.string z0, .int .i64 z1] 58) = w2 at *
  rw [← hbX] at HX0
  rw [← hbX]
  clear hbX
  go_loopw [14] (fun i wr => ∃ k : Nat, k ≤ 3 ∧ i = .int .i64 k ∧ Hid (Blk wr bX 58 #[.string z0, .int .i64 z1]) ∧ Hid (Mor w wr)) (fun i _ => 3 - (intOf i).toNat)
  case atStart => exact ⟨0, Nat.zero_le _, rfl, HX0, HM0⟩
  case round =>
    obtain ⟨k, hk, rfl, HXk, HMk⟩ := hrel
    by_cases hlt : k < 3
    · have hki : (k : Int) < 3 := by omega
      have hk0 : (0 : Int) ≤ (k : Int) := by omega
      have hbx : bX < wr.heap.size := HXk.out.lt
      have hgl : g < wr.heap.size := by have := HGl.out; have := HMk.out.below.size; omega
      have x0 : wr.cell? ⟨bX, 0, none⟩ = some (.string z0) := by rw [HXk.out.cell]; rfl
      have y0 : wr.cell? ⟨g, n * 2 + k * 2, none⟩ = some (.string z0) := by have := HC.out wr HMk.out k (by omega) 0 (by omega) _ rfl; rw [Nat.add_mul] at this; simpa using this
      have x1 : wr.cell? ⟨bX, 1, none⟩ = some (.int .i64 z1) := by rw [HXk.out.cell]; rfl
      have y1 : wr.cell? ⟨g, n * 2 + k * 2 + 1, none⟩ = some (.int .i64 z1) := by have := HC.out wr HMk.out k (by omega) 1 (by omega) _ rfl; rw [Nat.add_mul] at this; simpa using this
      have HXn := Lib.hid (fun (W : World) (hW : Mor wr W) => show Blk W bX 58 #[.string z0, .int .i64 z1] from HXk.out.below hW.below HXk.out.lt)
      go_wp2
      go_roundw
      case rel => exact ⟨k + 1, hlt, by go_num, Lib.hid (HXn.out _ (Mor.refl _).alloc), Lib.hid HMk.out.alloc⟩
      case measure => simp [intOf]; omega
    · obtain rfl : k = 3 := by omega
      go_wp2
      go_returns
      exact ⟨rfl, HMk.out⟩

set_option maxHeartbeats 3200000 in
theorem spoilS_ac (g n cap : Nat) (cs : Array Value) (z0 : ByteArray) (z1 : Int) (w : World) (hb : Blk w g 58 cs) (hl : cs.size = cap * 2) (hn : n ≤ cap) (hm : cap ≤ maxLen) :
    Calls Tryz.prog 57 #[.slice (some ⟨g, 0, none⟩) n cap, .agg #[.string z0, .int .i64 z1]] w fun e w' => e = .returned (.tuple #[]) ∧ w.grownBy w' (some g) ∧ ∃ ds, Blk w' g 58 ds ∧ ds.size = cap * 2 := by
  have HB := Lib.hid hb
  have HL := Lib.hid hl
  have hmx : (cap : Int) ≤ 9223372036854775807 := by unfold maxLen at hm; omega
  have HX := Lib.hid (Blk.new w 58 #[.string z0, .int .i64 z1])
  have HG := Lib.hid (World.grownBy_alloc w (.cells #[.string z0, .int .i64 z1] 58) (some g))
  have HBa := Lib.hid (hb.alloc (.cells #[.string z0, .int .i64 z1] 58))
  have hgw := hb.lt
  clear hb hl hm
  obtain ⟨bX, hX⟩ : ∃ bX, bX = w.heap.size := ⟨_, rfl⟩
  have hgX : g ≠ bX := by omega
  go_enter Tryz.func57, Tryz.ntmps57
  go_wp2
  generalize w.alloc (.cells #[.string z0, .int .i64 z1] 58) = w0 at *
  rw [← hX] at HX
  rw [← hX]
  clear hX hgw
  go_loopw [11] (fun i wr => ∃ k : Nat, k ≤ cap ∧ i = .int .i64 k ∧ Hid (∃ ds, Blk wr g 58 ds ∧ ds.size = cap * 2) ∧ Hid (Blk wr bX 58 #[.string z0, .int .i64 z1]) ∧ Hid (w.grownBy wr (some g))) (fun i _ => cap - (intOf i).toNat)
  case atStart => exact ⟨0, Nat.zero_le _, rfl, Lib.hid ⟨_, HBa.out, HL.out⟩, HX, HG⟩
  case round =>
    obtain ⟨k, hk, rfl, HBk, HXk, HGk⟩ := hrel
    obtain ⟨ds, hds, hsz⟩ := HBk.out
    by_cases hlt : k < cap
    · have hki : (k : Int) < (cap : Int) := by omega
      have hf : ∀ o, wr.frozen? ⟨g, o, none⟩ = false := fun o => hds.frozen o
      have hg : g < wr.heap.size := hds.lt
      have hbx : bX < wr.heap.size := HXk.out.lt
      have x0 : wr.cell? ⟨bX, 0, none⟩ = some (.string z0) := by rw [HXk.out.cell]; rfl
      have x1 : wr.cell? ⟨bX, 1, none⟩ = some (.int .i64 z1) := by rw [HXk.out.cell]; rfl
      obtain ⟨y0, c0⟩ := blk_some hds (k * 2) (by omega)
      obtain ⟨y1, c1⟩ := blk_some hds (k * 2 + 1) (by omega)
      clear HBk
      have HDs := Lib.hid hds
      have HSz := Lib.hid hsz
      clear hds hsz
      go_wp2
      go_roundw
      case rel => exact ⟨k + 1, hlt, by go_num, Lib.hid ⟨_, (Blk.set_ (Blk.set_ HDs.out (k * 2) (.string z0)) (k * 2 + 1) (.int .i64 z1)), (set_size _ _ _ (set_size _ _ _ HSz.out))⟩, Lib.hid (blk_off (i := k * 2 + 1) (u := .int .i64 z1) (blk_off (i := k * 2) (u := .string z0) HXk.out hgX) hgX), Lib.hid (grown_set (i := k * 2 + 1) (u := .int .i64 z1) (grown_set (i := k * 2) (u := .string z0) HGk.out))⟩
      case measure => simp [intOf]; omega
    · obtain rfl : k = cap := by omega
      have HDz := Lib.hid (show ∃ ds, Blk wr g 58 ds ∧ ds.size = k * 2 from ⟨ds, hds, hsz⟩)
      clear hds hsz
      go_wp2
      go_returns
      exact ⟨rfl, HGk.out, HDz.out⟩
theorem spoil_ac (g n cap : Nat) (cs : Array Value) (z0 : ByteArray) (z1 : Int) (w : World) (hb : Blk w g 58 cs) (hl : cs.size = cap * 2) (hn : n ≤ cap) (hm : cap ≤ maxLen) :
    Calls Tryz.prog 57 #[.slice (some ⟨g, 0, none⟩) n cap, .agg #[.string z0, .int .i64 z1]] w fun e w' => e = .returned (.tuple #[]) ∧ w.grownBy w' (some g) :=
  (spoilS_ac g n cap cs z0 z1 w hb hl hn hm).mono (by rintro e w' ⟨h1, h2, _⟩; exact ⟨h1, h2⟩)


set_option maxHeartbeats 1600000 in
theorem spoil_nil_ac (z0 : ByteArray) (z1 : Int) (w : World) : Calls Tryz.prog 57 #[.slice none 0 0, .agg #[.string z0, .int .i64 z1]] w fun e w' => e = .returned (.tuple #[]) ∧ Mor w w' := by
  go_enter Tryz.func57, Tryz.ntmps57
  go_wp2
  refine wp_loop_rounds 1 ?_
  repeat (
    rw [rounds_succ]
    go_wp2_with fail)
  go_returns
  exact ⟨rfl, (Mor.refl _).alloc⟩
/-- a row of one's own is spoilt: nothing else is changed -/
theorem spoil_own_ac (z0 : ByteArray) (z1 : Int) {B n : Nat} {A : Option Addr} {c : Nat} {xs : List Value} {w : World} (h : w.ownsRow B 58 2 (.slice A n c) n xs) :
    Calls Tryz.prog 57 #[.slice A n c, .agg #[.string z0, .int .i64 z1]] w fun e w' => e = .returned (.tuple #[]) ∧ w.grownBy w' (Value.slice A n c).ownBlock := by
  obtain ⟨hl, ⟨hv, hn⟩ | ⟨g, cap, cur, hv, hg, hh, h1, h2, h3, h4⟩⟩ := h
  · rw [hv]
    refine (spoil_nil_ac z0 z1 w).mono ?_
    rintro e w' ⟨rfl, hm⟩
    exact ⟨rfl, grown_mor hm none⟩
  · rw [hv]
    exact spoil_ac g n cap cur z0 z1 w hh h3 h1 h2

end Go.Proofs.YtohpibjjlfpaaaaGreatDoor

/- talkeep.roomy, marked, spoil at tallage/api.Line (printed by groom.py). -/
namespace Go.Proofs.YtohpibjjlfpaaaaGreatDoor
open Go.ChangeShapes Go.WideShapes Go.ChangeAt Go.RowKit
set_option linter.unusedVariables false
set_option maxRecDepth 100000

theorem infoG_ln : (Tryz.prog.info? 34).map (fun i => (i.zero, i.size, i.bytes)) = some (some (.agg #[.string { data := #[] }, .int .i64 0]), 2, 24) := by kernel_rfl
set_option maxHeartbeats 3200000 in
theorem roomy_ln (A : Option Addr) (n cap : Nat) (cs : List Value) (z0 : ByteArray) (z1 : Int) (w : World) (hc : ∀ (W : World), Mor w W → ∀ y, A = some y → ∀ j u, cs[j]? = some u → W.cell? (y.add j) = some u) (h1 : ∀ u ∈ cs, u.oneCell' = true) (hn : cs.length = n * 2) (h0 : A = none → n = 0) (hl : n ≤ 5864062014805) :
    Calls Tryz.prog 6 #[.slice A n cap, .agg #[.string z0, .int .i64 z1]] w (RoomPost3 34 w n cs [.string z0, .int .i64 z1]) := by
  obtain ⟨i0, hi, hz0, hz1, hz2⟩ := info_parts infoG_ln
  have e3 : IntKind.i64.wrap ((n : Int) + 3) = ((n + 3 : Nat) : Int) := by rw [IntKind.wrap_i64]; omega
  have HC := Lib.hid hc
  have HA := Lib.hid h0
  have HCl := Lib.hid hn
  have H1 := Lib.hid h1
  have HX0 := Lib.hid (Blk.new w 34 #[.string z0, .int .i64 z1])
  have HM0 := Lib.hid ((Mor.refl w).alloc (o := .cells #[.string z0, .int .i64 z1] 34))
  clear hc hn h0 h1
  have hmk3 : ∀ W : World, (Instr.makeSlice 26 (.int .i64 0) (.int .i64 ((n : Int) + 3))).run Tryz.prog W = .ok (.slice (some ⟨W.heap.size, 0, none⟩) 0 (n + 3)) (W.alloc (.cells (madeCells (Value.cells (.agg #[.string { data := #[] }, .int .i64 0])) ((n + 3) * 2)) 34)) := by
    intro W
    have hr := run_make (P := Tryz.prog) W 26 34 i0 (.agg #[.string { data := #[] }, .int .i64 0]) Tryz.underlying26 hi hz0 .i64 .i64 0 ((n + 3 : Nat) : Int) (by omega) (by omega) (by rw [hz2]; omega) (by omega)
    rw [hz1, Int.toNat_natCast, show ((n + 3 : Nat) : Int) = (n : Int) + 3 by omega] at hr
    exact hr
  generalize hZ : madeCells (Value.cells (.agg #[.string { data := #[] }, .int .i64 0])) ((n + 3) * 2) = mk at hmk3
  have HMl := Lib.hid (show mk.size = (n + 3) * 2 by rw [← hZ, size_madeCells])
  clear hZ
  obtain ⟨bX, hbX⟩ : ∃ bX, bX = w.heap.size := ⟨_, rfl⟩
  have HBX := Lib.hid hbX
  obtain ⟨g, hg⟩ : ∃ g, g = w.heap.size + 1 := ⟨_, rfl⟩
  have HG := Lib.hid (show w.heap.size ≤ g by omega)
  have hgX : g ≠ bX := by omega
  cases A with
  | none =>
    obtain rfl : n = 0 := HA.out rfl
    have hx : cs = [] := List.eq_nil_of_length_eq_zero (by simpa using HCl.out)
    subst hx
    clear HC HA H1
    have hmk4 : ∀ W : World, (Instr.makeSlice 26 (.int .i64 0) (.int .i64 3)).run Tryz.prog W = .ok (.slice (some ⟨W.heap.size, 0, none⟩) 0 3) (W.alloc (.cells mk 34)) := hmk3
    clear hmk3
    go_enter Tryz.func6, Tryz.ntmps6
    go_wp2_with (at_builtin; refine wpList_append_nilc rfl _ _ 26 rfl 34 i0 Tryz.underlying26 hi (w.heap.size + 1) 0 3 cap rfl rfl (by omega) ?_)
    have HF := Lib.hid (show Fil ((w.alloc (.cells #[.string z0, .int .i64 z1] 34)).alloc (.cells mk 34)) g 34 (room3 [] [.string z0, .int .i64 z1]) ((0 + 0) * 2) by
      have := fil_new (w := w.alloc (.cells #[.string z0, .int .i64 z1] 34)) (t := 34) (us := [.string z0, .int .i64 z1]) (s := 2) (mk := mk) HMl.out rfl
      rw [szAl] at this
      rw [hg]; exact this)
    have HX := Lib.hid (show Blk ((w.alloc (.cells #[.string z0, .int .i64 z1] 34)).alloc (.cells mk 34)) bX 34 #[.string z0, .int .i64 z1] by rw [hbX]; exact HX0.out.alloc _)
    have HB2 : Hid (Mor w ((w.alloc (.cells #[.string z0, .int .i64 z1] 34)).alloc (.cells mk 34))) := Lib.hid (HM0.out.alloc (o := .cells mk 34))
    generalize (w.alloc (.cells #[.string z0, .int .i64 z1] 34)).alloc (.cells mk 34) = w2 at *
    rw [← hg, ← hbX]
    clear hmk4 HX0 HM0 HMl hg hbX HBX
    go_wp2
    go_loopw [13] (fun i wr => ∃ k : Nat, k ≤ 3 ∧ i = .int .i64 k ∧ Hid (Fil wr g 34 (room3 [] [.string z0, .int .i64 z1]) ((0 + k) * 2)) ∧ Hid (Blk wr bX 34 #[.string z0, .int .i64 z1]) ∧ Hid (Mor w wr)) (fun i _ => 3 - (intOf i).toNat)
    case atStart => exact ⟨0, Nat.zero_le _, rfl, HF, HX, HB2⟩
    case round =>
      obtain ⟨k, hk, rfl, HBk, HXk, HMk⟩ := hrel
      by_cases hlt : k < 3
      · have hki : (k : Int) < 3 := by omega
        have hk0 : (0 : Int) ≤ (k : Int) := by omega
        have e4 : IntKind.i64.wrap (k : Int) = (k : Int) := by rw [IntKind.wrap_i64]; omega
        obtain ⟨ds, hds, hsz, hdj⟩ := HBk.out
        have htl : (room3 [] [.string z0, .int .i64 z1]).length = (0 + 3) * 2 := by rw [room3_len, HCl.out]; simp; try omega
        have hbx : bX < wr.heap.size := HXk.out.lt
        have hgl : g < wr.heap.size := hds.lt
        have x0 : wr.cell? ⟨bX, 0, none⟩ = some (.string z0) := by rw [HXk.out.cell]; rfl
        have x1 : wr.cell? ⟨bX, 1, none⟩ = some (.int .i64 z1) := by rw [HXk.out.cell]; rfl
        have hf : ∀ o, wr.frozen? ⟨g, o, none⟩ = false := fun o => hds.frozen o
        obtain ⟨y0, c0⟩ := blk_some hds (k * 2) (by omega)
        obtain ⟨y1, c1⟩ := blk_some hds (k * 2 + 1) (by omega)
        have hnx := Fil.next (us := [.string z0, .int .i64 z1]) hsz hdj (by rw [htl]; simp; try omega) (fun i hi => room3_get [] [.string z0, .int .i64 z1] HCl.out rfl k i (by omega) (by simpa using hi))
        have HNx := Lib.hid (show (setL ds (k * 2) [.string z0, .int .i64 z1]).size = (room3 [] [.string z0, .int .i64 z1]).length ∧ ∀ j, j < (0 + (k + 1)) * 2 → (setL ds (k * 2) [.string z0, .int .i64 z1])[j]? = (room3 [] [.string z0, .int .i64 z1])[j]? from by
          have e6 : (0 + k) * 2 = k * 2 := by rw [Nat.zero_add]
          rw [e6] at hnx
          refine ⟨hnx.1, fun j hj => hnx.2 j ?_⟩
          simp only [List.length_cons, List.length_nil]
          omega)
        have hny := HNx.out
        simp only [setL] at hny
        have HNy := Lib.hid hny
        clear HBk HNx
        have HDs := Lib.hid hds
        clear hds hsz hdj hnx hny htl
        go_wp2
        go_region
        go_wp2
        go_roundw
        case rel => exact ⟨k + 1, hlt, by go_num, Lib.hid (show Fil _ g 34 (room3 [] [.string z0, .int .i64 z1]) ((0 + (k + 1)) * 2) from ⟨_, Blk.drew (Blk.set_ (Blk.set_ HDs.out (k * 2) (.string z0)) (k * 2 + 1) (.int .i64 z1)), HNy.out⟩), Lib.hid (by exact Blk.drew (blk_off (i := k * 2 + 1) (u := .int .i64 z1) (blk_off (i := k * 2) (u := .string z0) HXk.out hgX) hgX)), Lib.hid (Mor.drew (Mor.of_below (Below.setCell (p := (⟨g, k * 2 + 1, none⟩ : Addr)) (Below.setCell (p := (⟨g, k * 2, none⟩ : Addr)) HMk.out.below (by exact HG.out) (.string z0)) (by exact HG.out) (.int .i64 z1))))⟩
        case measure => simp [intOf]; omega
      · obtain rfl : k = 3 := by omega
        have HBf := Lib.hid (show Blk wr g 34 (room3 [] [.string z0, .int .i64 z1]).toArray from HBk.out.all (by rw [room3_len, HCl.out]; simp; try omega))
        go_wp2
        go_ret
        exact ⟨g, rfl, HG.out, HMk.out, HBf.out⟩
  | some y =>
    have HCy := Lib.hid (fun (W : World) (hW : Mor w W) => HC.out W hW y rfl)
    clear HC HA
    go_enter Tryz.func6, Tryz.ntmps6
    go_wp2_with (at_builtin; refine wpList_append_own_spare _ rfl _ _ 26 rfl (w.heap.size + 1) 34 i0 2 Tryz.underlying26 hi hz1 (w.heap.size + 1) 0 (n + 3) [] rfl ⟨by simp, .inr ⟨w.heap.size + 1, n + 3, mk, rfl, Nat.le_refl _, (by have := heap_alloc_new (w.alloc (.cells #[.string z0, .int .i64 z1] 34)) (.cells mk 34); rw [szAl] at this; exact this), Nat.zero_le _, by unfold maxLen; omega, HMl.out, by simp⟩⟩ y n cap cs rfl HCl.out ?_ ?_ ?_ ?_)
    · exact fun j u hu => HCy.out _ (HM0.out.alloc) j u hu
    · exact H1.out
    · omega
    · intro w2 hown2 hgrow2
      have HF := Lib.hid (show Fil w2 g 34 (room3 cs [.string z0, .int .i64 z1]) ((n + 0) * 2) by
        rw [hg]
        exact own_fil (n := n) (c := n + 3) (cs := cs) (s := 2) (by simpa using hown2) rfl rfl)
      have HX := Lib.hid (show Blk w2 bX 34 #[.string z0, .int .i64 z1] by
        rw [hbX]
        exact (hgrow2.block w.heap.size (by simp; omega) (by intro e; injection e with e; omega)).trans (HX0.out.alloc _))
      have HB2 := Lib.hid (show Mor w w2 from grown_morR (HM0.out.alloc (o := .cells mk 34)) hgrow2 (by omega))
      clear hown2 hgrow2 hmk3
      rw [← hg, ← hbX]
      clear HX0 HM0 HMl hg hbX HBX HCy H1
      go_wp2
      go_loopw [13] (fun i wr => ∃ k : Nat, k ≤ 3 ∧ i = .int .i64 k ∧ Hid (Fil wr g 34 (room3 cs [.string z0, .int .i64 z1]) ((n + k) * 2)) ∧ Hid (Blk wr bX 34 #[.string z0, .int .i64 z1]) ∧ Hid (Mor w wr)) (fun i _ => 3 - (intOf i).toNat)
      case atStart => exact ⟨0, Nat.zero_le _, rfl, HF, HX, HB2⟩
      case round =>
        obtain ⟨k, hk, rfl, HBk, HXk, HMk⟩ := hrel
        by_cases hlt : k < 3
        · have hki : (k : Int) < 3 := by omega
          have hk0 : (0 : Int) ≤ (k : Int) := by omega
          obtain ⟨r, hr⟩ : ∃ r : Nat, r = n + k := ⟨_, rfl⟩
          have hrn : r < n + 3 := by omega
          have e4 : IntKind.i64.wrap ((n : Int) + (k : Int)) = (r : Int) := by rw [IntKind.wrap_i64]; omega
          have hr1 : (r : Int) < ((n + 3 : Nat) : Int) := by omega
          have hr0 : (0 : Int) ≤ (r : Int) := by omega
          obtain ⟨ds, hds, hsz, hdj⟩ := HBk.out
          have htl : (room3 cs [.string z0, .int .i64 z1]).length = (n + 3) * 2 := by rw [room3_len, HCl.out]; simp; try omega
          have hbx : bX < wr.heap.size := HXk.out.lt
          have hgl : g < wr.heap.size := hds.lt
          have x0 : wr.cell? ⟨bX, 0, none⟩ = some (.string z0) := by rw [HXk.out.cell]; rfl
          have x1 : wr.cell? ⟨bX, 1, none⟩ = some (.int .i64 z1) := by rw [HXk.out.cell]; rfl
          have hf : ∀ o, wr.frozen? ⟨g, o, none⟩ = false := fun o => hds.frozen o
          obtain ⟨y0, c0⟩ := blk_some hds (r * 2) (by omega)
          obtain ⟨y1, c1⟩ := blk_some hds (r * 2 + 1) (by omega)
          have hnx := Fil.next (us := [.string z0, .int .i64 z1]) hsz hdj (by rw [htl]; simp; try omega) (fun i hi => room3_get cs [.string z0, .int .i64 z1] HCl.out rfl k i (by omega) (by simpa using hi))
          have HNx := Lib.hid (show (setL ds (r * 2) [.string z0, .int .i64 z1]).size = (room3 cs [.string z0, .int .i64 z1]).length ∧ ∀ j, j < (n + (k + 1)) * 2 → (setL ds (r * 2) [.string z0, .int .i64 z1])[j]? = (room3 cs [.string z0, .int .i64 z1])[j]? from by
            have e6 : (n + k) * 2 = r * 2 := by rw [hr]
            rw [e6] at hnx
            refine ⟨hnx.1, fun j hj => hnx.2 j ?_⟩
            simp only [List.length_cons, List.length_nil]
            omega)
          have hny := HNx.out
          simp only [setL] at hny
          have HNy := Lib.hid hny
          clear HBk HNx
          have HDs := Lib.hid hds
          clear hds hsz hdj hnx hny htl hr
          go_wp2
          go_region
          go_wp2
          go_roundw
          case rel => exact ⟨k + 1, hlt, by go_num, Lib.hid (show Fil _ g 34 (room3 cs [.string z0, .int .i64 z1]) ((n + (k + 1)) * 2) from ⟨_, Blk.drew (Blk.set_ (Blk.set_ HDs.out (r * 2) (.string z0)) (r * 2 + 1) (.int .i64 z1)), HNy.out⟩), Lib.hid (by exact Blk.drew (blk_off (i := r * 2 + 1) (u := .int .i64 z1) (blk_off (i := r * 2) (u := .string z0) HXk.out hgX) hgX)), Lib.hid (Mor.drew (Mor.of_below (Below.setCell (p := (⟨g, r * 2 + 1, none⟩ : Addr)) (Below.setCell (p := (⟨g, r * 2, none⟩ : Addr)) HMk.out.below (by exact HG.out) (.string z0)) (by exact HG.out) (.int .i64 z1))))⟩
          case measure => simp [intOf]; omega
        · obtain rfl : k = 3 := by omega
          have HBf := Lib.hid (show Blk wr g 34 (room3 cs [.string z0, .int .i64 z1]).toArray from HBk.out.all (by rw [room3_len, HCl.out]; simp; try omega))
          go_wp2
          go_ret
          exact ⟨g, rfl, HG.out, HMk.out, HBf.out⟩

set_option maxHeartbeats 3200000 in
theorem marked_ln (g n : Nat) (cs : List Value) (z0 : ByteArray) (z1 : Int) (w : World) (h : Blk w g 34 (room3 cs [.string z0, .int .i64 z1]).toArray) (hn : cs.length = n * 2) (hl : n ≤ 5864062014805) :
    Calls Tryz.prog 21 #[.slice (some ⟨g, 0, none⟩) n (n + 3), .agg #[.string z0, .int .i64 z1]] w fun e w' => e = .returned (.bool true) ∧ Mor w w' := by
  have HC := Lib.hid (fun (W : World) (hW : Mor w W) (k : Nat) (hk : k < 3) (i : Nat) (hi : i < 2) (u : Value) (hu : ([.string z0, .int .i64 z1] : List Value)[i]? = some u) => show W.cell? ⟨g, (n + k) * 2 + i, none⟩ = some u from blk_at (h.below hW.below h.lt) _ ((room3_get cs [.string z0, .int .i64 z1] hn rfl k i hk hi).trans hu))
  have HGl := Lib.hid h.lt
  have HX0 := Lib.hid (Blk.new w 34 #[.string z0, .int .i64 z1])
  have HM0 := Lib.hid ((Mor.refl w).alloc (o := .cells #[.string z0, .int .i64 z1] 34))
  clear h hn
  have e3 : n + 3 - n = 3 := by omega
  obtain ⟨bX, hbX⟩ : ∃ bX, bX = w.heap.size := ⟨_, rfl⟩
  go_enter Tryz.func21, Tryz.ntmps21
  go_wp2
  generalize w.alloc (.cells #[.string z0, .int .i64 z1] 34) = w2 at *
  rw [← hbX] at HX0
  rw [← hbX]
  clear hbX
  go_loopw [14] (fun i wr => ∃ k : Nat, k ≤ 3 ∧ i = .int .i64 k ∧ Hid (Blk wr bX 34 #[.string z0, .int .i64 z1]) ∧ Hid (Mor w wr)) (fun i _ => 3 - (intOf i).toNat)
  case atStart => exact ⟨0, Nat.zero_le _, rfl, HX0, HM0⟩
  case round =>
    obtain ⟨k, hk, rfl, HXk, HMk⟩ := hrel
    by_cases hlt : k < 3
    · have hki : (k : Int) < 3 := by omega
      have hk0 : (0 : Int) ≤ (k : Int) := by omega
      have hbx : bX < wr.heap.size := HXk.out.lt
      have hgl : g < wr.heap.size := by have := HGl.out; have := HMk.out.below.size; omega
      have x0 : wr.cell? ⟨bX, 0, none⟩ = some (.string z0) := by rw [HXk.out.cell]; rfl
      have y0 : wr.cell? ⟨g, n * 2 + k * 2, none⟩ = some (.string z0) := by have := HC.out wr HMk.out k (by omega) 0 (by omega) _ rfl; rw [Nat.add_mul] at this; simpa using this
      have x1 : wr.cell? ⟨bX, 1, none⟩ = some (.int .i64 z1) := by rw [HXk.out.cell]; rfl
      have y1 : wr.cell? ⟨g, n * 2 + k * 2 + 1, none⟩ = some (.int .i64 z1) := by have := HC.out wr HMk.out k (by omega) 1 (by omega) _ rfl; rw [Nat.add_mul] at this; simpa using this
      have HXn := Lib.hid (fun (W : World) (hW : Mor wr W) => show Blk W bX 34 #[.string z0, .int .i64 z1] from HXk.out.below hW.below HXk.out.lt)
      go_wp2
      go_roundw
      case rel => exact ⟨k + 1, hlt, by go_num, Lib.hid (HXn.out _ (Mor.refl _).alloc), Lib.hid HMk.out.alloc⟩
      case measure => simp [intOf]; omega
    · obtain rfl : k = 3 := by omega
      go_wp2
      go_returns
      exact ⟨rfl, HMk.out⟩

set_option maxHeartbeats 3200000 in
theorem spoilS_ln (g n cap : Nat) (cs : Array Value) (z0 : ByteArray) (z1 : Int) (w : World) (hb : Blk w g 34 cs) (hl : cs.size = cap * 2) (hn : n ≤ cap) (hm : cap ≤ maxLen) :
    Calls Tryz.prog 27 #[.slice (some ⟨g, 0, none⟩) n cap, .agg #[.string z0, .int .i64 z1]] w fun e w' => e = .returned (.tuple #[]) ∧ w.grownBy w' (some g) ∧ ∃ ds, Blk w' g 34 ds ∧ ds.size = cap * 2 := by
  have HB := Lib.hid hb
  have HL := Lib.hid hl
  have hmx : (cap : Int) ≤ 9223372036854775807 := by unfold maxLen at hm; omega
  have HX := Lib.hid (Blk.new w 34 #[.string z0, .int .i64 z1])
  have HG := Lib.hid (World.grownBy_alloc w (.cells #[.string z0, .int .i64 z1] 34) (some g))
  have HBa := Lib.hid (hb.alloc (.cells #[.string z0, .int .i64 z1] 34))
  have hgw := hb.lt
  clear hb hl hm
  obtain ⟨bX, hX⟩ : ∃ bX, bX = w.heap.size := ⟨_, rfl⟩
  have hgX : g ≠ bX := by omega
  go_enter Tryz.func27, Tryz.ntmps27
  go_wp2
  generalize w.alloc (.cells #[.string z0, .int .i64 z1] 34) = w0 at *
  rw [← hX] at HX
  rw [← hX]
  clear hX hgw
  go_loopw [11] (fun i wr => ∃ k : Nat, k ≤ cap ∧ i = .int .i64 k ∧ Hid (∃ ds, Blk wr g 34 ds ∧ ds.size = cap * 2) ∧ Hid (Blk wr bX 34 #[.string z0, .int .i64 z1]) ∧ Hid (w.grownBy wr (some g))) (fun i _ => cap - (intOf i).toNat)
  case atStart => exact ⟨0, Nat.zero_le _, rfl, Lib.hid ⟨_, HBa.out, HL.out⟩, HX, HG⟩
  case round =>
    obtain ⟨k, hk, rfl, HBk, HXk, HGk⟩ := hrel
    obtain ⟨ds, hds, hsz⟩ := HBk.out
    by_cases hlt : k < cap
    · have hki : (k : Int) < (cap : Int) := by omega
      have hf : ∀ o, wr.frozen? ⟨g, o, none⟩ = false := fun o => hds.frozen o
      have hg : g < wr.heap.size := hds.lt
      have hbx : bX < wr.heap.size := HXk.out.lt
      have x0 : wr.cell? ⟨bX, 0, none⟩ = some (.string z0) := by rw [HXk.out.cell]; rfl
      have x1 : wr.cell? ⟨bX, 1, none⟩ = some (.int .i64 z1) := by rw [HXk.out.cell]; rfl
      obtain ⟨y0, c0⟩ := blk_some hds (k * 2) (by omega)
      obtain ⟨y1, c1⟩ := blk_some hds (k * 2 + 1) (by omega)
      clear HBk
      have HDs := Lib.hid hds
      have HSz := Lib.hid hsz
      clear hds hsz
      go_wp2
      go_roundw
      case rel => exact ⟨k + 1, hlt, by go_num, Lib.hid ⟨_, (Blk.set_ (Blk.set_ HDs.out (k * 2) (.string z0)) (k * 2 + 1) (.int .i64 z1)), (set_size _ _ _ (set_size _ _ _ HSz.out))⟩, Lib.hid (blk_off (i := k * 2 + 1) (u := .int .i64 z1) (blk_off (i := k * 2) (u := .string z0) HXk.out hgX) hgX), Lib.hid (grown_set (i := k * 2 + 1) (u := .int .i64 z1) (grown_set (i := k * 2) (u := .string z0) HGk.out))⟩
      case measure => simp [intOf]; omega
    · obtain rfl : k = cap := by omega
      have HDz := Lib.hid (show ∃ ds, Blk wr g 34 ds ∧ ds.size = k * 2 from ⟨ds, hds, hsz⟩)
      clear hds hsz
      go_wp2
      go_returns
      exact ⟨rfl, HGk.out, HDz.out⟩
theorem spoil_ln (g n cap : Nat) (cs : Array Value) (z0 : ByteArray) (z1 : Int) (w : World) (hb : Blk w g 34 cs) (hl : cs.size = cap * 2) (hn : n ≤ cap) (hm : cap ≤ maxLen) :
    Calls Tryz.prog 27 #[.slice (some ⟨g, 0, none⟩) n cap, .agg #[.string z0, .int .i64 z1]] w fun e w' => e = .returned (.tuple #[]) ∧ w.grownBy w' (some g) :=
  (spoilS_ln g n cap cs z0 z1 w hb hl hn hm).mono (by rintro e w' ⟨h1, h2, _⟩; exact ⟨h1, h2⟩)


set_option maxHeartbeats 1600000 in
theorem spoil_nil_ln (z0 : ByteArray) (z1 : Int) (w : World) : Calls Tryz.prog 27 #[.slice none 0 0, .agg #[.string z0, .int .i64 z1]] w fun e w' => e = .returned (.tuple #[]) ∧ Mor w w' := by
  go_enter Tryz.func27, Tryz.ntmps27
  go_wp2
  refine wp_loop_rounds 1 ?_
  repeat (
    rw [rounds_succ]
    go_wp2_with fail)
  go_returns
  exact ⟨rfl, (Mor.refl _).alloc⟩
/-- a row of one's own is spoilt: nothing else is changed -/
theorem spoil_own_ln (z0 : ByteArray) (z1 : Int) {B n : Nat} {A : Option Addr} {c : Nat} {xs : List Value} {w : World} (h : w.ownsRow B 34 2 (.slice A n c) n xs) :
    Calls Tryz.prog 27 #[.slice A n c, .agg #[.string z0, .int .i64 z1]] w fun e w' => e = .returned (.tuple #[]) ∧ w.grownBy w' (Value.slice A n c).ownBlock := by
  obtain ⟨hl, ⟨hv, hn⟩ | ⟨g, cap, cur, hv, hg, hh, h1, h2, h3, h4⟩⟩ := h
  · rw [hv]
    refine (spoil_nil_ln z0 z1 w).mono ?_
    rintro e w' ⟨rfl, hm⟩
    exact ⟨rfl, grown_mor hm none⟩
  · rw [hv]
    exact spoil_ln g n cap cur z0 z1 w hh h3 h1 h2

/-- .. and its block keeps its shape -/
theorem spoilS_own_ln (z0 : ByteArray) (z1 : Int) {B n : Nat} {A : Option Addr} {c : Nat} {xs : List Value} {w : World} (h : w.ownsRow B 34 2 (.slice A n c) n xs) :
    Calls Tryz.prog 27 #[.slice A n c, .agg #[.string z0, .int .i64 z1]] w fun e w' => e = .returned (.tuple #[]) ∧ w.grownBy w' (Value.slice A n c).ownBlock ∧ ∀ g, (Value.slice A n c).ownBlock = some g → ∃ ds, Blk w' g 34 ds ∧ ∀ cur, Blk w g 34 cur → ds.size = cur.size := by
  obtain ⟨hl, ⟨hv, hn⟩ | ⟨g, cap, cur, hv, hg, hh, h1, h2, h3, h4⟩⟩ := h
  · rw [hv]
    refine (spoil_nil_ln z0 z1 w).mono ?_
    rintro e w' ⟨rfl, hm⟩
    exact ⟨rfl, grown_mor hm none, fun g hg => by simp [Value.ownBlock] at hg⟩
  · rw [hv]
    refine (spoilS_ln g n cap cur z0 z1 w hh h3 h1 h2).mono ?_
    rintro e w' ⟨rfl, hg', ds, hb, hs⟩
    refine ⟨rfl, hg', fun g2 hg2 => ?_⟩
    simp [Value.ownBlock] at hg2
    subst hg2
    refine ⟨ds, hb, fun cur2 hc => ?_⟩
    have e2 : (some (Obj.cells cur 34 (0, 0))) = some (Obj.cells cur2 34 (0, 0)) := (show w.heap[g]? = _ from hh).symm.trans hc
    injection e2 with e2
    injection e2 with e2 _ _
    rw [hs, ← e2, h3]

end Go.Proofs.YtohpibjjlfpaaaaGreatDoor

/- talkeep.roomy, marked, spoil at tallage/api.Entry (printed by groom.py). -/
namespace Go.Proofs.YtohpibjjlfpaaaaGreatDoor
open Go.ChangeShapes Go.WideShapes Go.ChangeAt Go.RowKit
set_option linter.unusedVariables false
set_option maxRecDepth 100000

set_option maxHeartbeats 3200000 in
theorem spoilS_en (g n cap : Nat) (cs : Array Value) (z0 : ByteArray) (z1 : Int) (w : World) (hb : Blk w g 28 cs) (hl : cs.size = cap * 3) (hn : n ≤ cap) (hm : cap ≤ maxLen) :
    Calls Tryz.prog 58 #[.slice (some ⟨g, 0, none⟩) n cap, .agg #[.string z0, .int .i64 z1, .slice none 0 0]] w fun e w' => e = .returned (.tuple #[]) ∧ w.grownBy w' (some g) ∧ ∃ ds, Blk w' g 28 ds ∧ ds.size = cap * 3 := by
  have HB := Lib.hid hb
  have HL := Lib.hid hl
  have hmx : (cap : Int) ≤ 9223372036854775807 := by unfold maxLen at hm; omega
  have HX := Lib.hid (Blk.new w 28 #[.string z0, .int .i64 z1, .slice none 0 0])
  have HG := Lib.hid (World.grownBy_alloc w (.cells #[.string z0, .int .i64 z1, .slice none 0 0] 28) (some g))
  have HBa := Lib.hid (hb.alloc (.cells #[.string z0, .int .i64 z1, .slice none 0 0] 28))
  have hgw := hb.lt
  clear hb hl hm
  obtain ⟨bX, hX⟩ : ∃ bX, bX = w.heap.size := ⟨_, rfl⟩
  have hgX : g ≠ bX := by omega
  go_enter Tryz.func58, Tryz.ntmps58
  go_wp2
  generalize w.alloc (.cells #[.string z0, .int .i64 z1, .slice none 0 0] 28) = w0 at *
  rw [← hX] at HX
  rw [← hX]
  clear hX hgw
  go_loopw [11] (fun i wr => ∃ k : Nat, k ≤ cap ∧ i = .int .i64 k ∧ Hid (∃ ds, Blk wr g 28 ds ∧ ds.size = cap * 3) ∧ Hid (Blk wr bX 28 #[.string z0, .int .i64 z1, .slice none 0 0]) ∧ Hid (w.grownBy wr (some g))) (fun i _ => cap - (intOf i).toNat)
  case atStart => exact ⟨0, Nat.zero_le _, rfl, Lib.hid ⟨_, HBa.out, HL.out⟩, HX, HG⟩
  case round =>
    obtain ⟨k, hk, rfl, HBk, HXk, HGk⟩ := hrel
    obtain ⟨ds, hds, hsz⟩ := HBk.out
    by_cases hlt : k < cap
    · have hki : (k : Int) < (cap : Int) := by omega
      have hf : ∀ o, wr.frozen? ⟨g, o, none⟩ = false := fun o => hds.frozen o
      have hg : g < wr.heap.size := hds.lt
      have hbx : bX < wr.heap.size := HXk.out.lt
      have x0 : wr.cell? ⟨bX, 0, none⟩ = some (.string z0) := by rw [HXk.out.cell]; rfl
      have x1 : wr.cell? ⟨bX, 1, none⟩ = some (.int .i64 z1) := by rw [HXk.out.cell]; rfl
      have x2 : wr.cell? ⟨bX, 2, none⟩ = some (.slice none 0 0) := by rw [HXk.out.cell]; rfl
      obtain ⟨y0, c0⟩ := blk_some hds (k * 3) (by omega)
      obtain ⟨y1, c1⟩ := blk_some hds (k * 3 + 1) (by omega)
      obtain ⟨y2, c2⟩ := blk_some hds (k * 3 + 2) (by omega)
      clear HBk
      have HDs := Lib.hid hds
      have HSz := Lib.hid hsz
      clear hds hsz
      go_wp2
      go_roundw
      case rel => exact ⟨k + 1, hlt, by go_num, Lib.hid ⟨_, (Blk.set_ (Blk.set_ (Blk.set_ HDs.out (k * 3) (.string z0)) (k * 3 + 1) (.int .i64 z1)) (k * 3 + 2) (.slice none 0 0)), (set_size _ _ _ (set_size _ _ _ (set_size _ _ _ HSz.out)))⟩, Lib.hid (blk_off (i := k * 3 + 2) (u := .slice none 0 0) (blk_off (i := k * 3 + 1) (u := .int .i64 z1) (blk_off (i := k * 3) (u := .string z0) HXk.out hgX) hgX) hgX), Lib.hid (grown_set (i := k * 3 + 2) (u := .slice none 0 0) (grown_set (i := k * 3 + 1) (u := .int .i64 z1) (grown_set (i := k * 3) (u := .string z0) HGk.out)))⟩
      case measure => simp [intOf]; omega
    · obtain rfl : k = cap := by omega
      have HDz := Lib.hid (show ∃ ds, Blk wr g 28 ds ∧ ds.size = k * 3 from ⟨ds, hds, hsz⟩)
      clear hds hsz
      go_wp2
      go_returns
      exact ⟨rfl, HGk.out, HDz.out⟩
theorem spoil_en (g n cap : Nat) (cs : Array Value) (z0 : ByteArray) (z1 : Int) (w : World) (hb : Blk w g 28 cs) (hl : cs.size = cap * 3) (hn : n ≤ cap) (hm : cap ≤ maxLen) :
    Calls Tryz.prog 58 #[.slice (some ⟨g, 0, none⟩) n cap, .agg #[.string z0, .int .i64 z1, .slice none 0 0]] w fun e w' => e = .returned (.tuple #[]) ∧ w.grownBy w' (some g) :=
  (spoilS_en g n cap cs z0 z1 w hb hl hn hm).mono (by rintro e w' ⟨h1, h2, _⟩; exact ⟨h1, h2⟩)


set_option maxHeartbeats 1600000 in
theorem spoil_nil_en (z0 : ByteArray) (z1 : Int) (w : World) : Calls Tryz.prog 58 #[.slice none 0 0, .agg #[.string z0, .int .i64 z1, .slice none 0 0]] w fun e w' => e = .returned (.tuple #[]) ∧ Mor w w' := by
  go_enter Tryz.func58, Tryz.ntmps58
  go_wp2
  refine wp_loop_rounds 1 ?_
  repeat (
    rw [rounds_succ]
    go_wp2_with fail)
  go_returns
  exact ⟨rfl, (Mor.refl _).alloc⟩
/-- a row of one's own is spoilt: nothing else is changed -/
theorem spoil_own_en (z0 : ByteArray) (z1 : Int) {B n : Nat} {A : Option Addr} {c : Nat} {xs : List Value} {w : World} (h : w.ownsRow B 28 3 (.slice A n c) n xs) :
    Calls Tryz.prog 58 #[.slice A n c, .agg #[.string z0, .int .i64 z1, .slice none 0 0]] w fun e w' => e = .returned (.tuple #[]) ∧ w.grownBy w' (Value.slice A n c).ownBlock := by
  obtain ⟨hl, ⟨hv, hn⟩ | ⟨g, cap, cur, hv, hg, hh, h1, h2, h3, h4⟩⟩ := h
  · rw [hv]
    refine (spoil_nil_en z0 z1 w).mono ?_
    rintro e w' ⟨rfl, hm⟩
    exact ⟨rfl, grown_mor hm none⟩
  · rw [hv]
    exact spoil_en g n cap cur z0 z1 w hh h3 h1 h2

end Go.Proofs.YtohpibjjlfpaaaaGreatDoor

/- talkeep.roomy, marked, spoil at tallage/api.Plan (printed by groom.py). -/
namespace Go.Proofs.YtohpibjjlfpaaaaGreatDoor
open Go.ChangeShapes Go.WideShapes Go.ChangeAt Go.RowKit
set_option linter.unusedVariables false
set_option maxRecDepth 100000

theorem infoG_pl : (Tryz.prog.info? 37).map (fun i => (i.zero, i.size, i.bytes)) = some (some (.agg #[.string { data := #[] }, .int .i64 0, .int .i64 0, .int .i64 0, .int .i64 0, .string { data := #[] }, .string { data := #[] }]), 7, 80) := by kernel_rfl
set_option maxHeartbeats 3200000 in
theorem roomy_pl (A : Option Addr) (n cap : Nat) (cs : List Value) (z0 : ByteArray) (z1 : Int) (z2 : Int) (z3 : Int) (z4 : Int) (z5 : ByteArray) (z6 : ByteArray) (w : World) (hc : ∀ (W : World), Mor w W → ∀ y, A = some y → ∀ j u, cs[j]? = some u → W.cell? (y.add j) = some u) (h1 : ∀ u ∈ cs, u.oneCell' = true) (hn : cs.length = n * 7) (h0 : A = none → n = 0) (hl : n ≤ 1759218604441) :
    Calls Tryz.prog 7 #[.slice A n cap, .agg #[.string z0, .int .i64 z1, .int .i64 z2, .int .i64 z3, .int .i64 z4, .string z5, .string z6]] w (RoomPost3 37 w n cs [.string z0, .int .i64 z1, .int .i64 z2, .int .i64 z3, .int .i64 z4, .string z5, .string z6]) := by
  obtain ⟨i0, hi, hz0, hz1, hz2⟩ := info_parts infoG_pl
  have e3 : IntKind.i64.wrap ((n : Int) + 3) = ((n + 3 : Nat) : Int) := by rw [IntKind.wrap_i64]; omega
  have HC := Lib.hid hc
  have HA := Lib.hid h0
  have HCl := Lib.hid hn
  have H1 := Lib.hid h1
  have HX0 := Lib.hid (Blk.new w 37 #[.string z0, .int .i64 z1, .int .i64 z2, .int .i64 z3, .int .i64 z4, .string z5, .string z6])
  have HM0 := Lib.hid ((Mor.refl w).alloc (o := .cells #[.string z0, .int .i64 z1, .int .i64 z2, .int .i64 z3, .int .i64 z4, .string z5, .string z6] 37))
  clear hc hn h0 h1
  have hmk3 : ∀ W : World, (Instr.makeSlice 29 (.int .i64 0) (.int .i64 ((n : Int) + 3))).run Tryz.prog W = .ok (.slice (some ⟨W.heap.size, 0, none⟩) 0 (n + 3)) (W.alloc (.cells (madeCells (Value.cells (.agg #[.string { data := #[] }, .int .i64 0, .int .i64 0, .int .i64 0, .int .i64 0, .string { data := #[] }, .string { data := #[] }])) ((n + 3) * 7)) 37)) := by
    intro W
    have hr := run_make (P := Tryz.prog) W 29 37 i0 (.agg #[.string { data := #[] }, .int .i64 0, .int .i64 0, .int .i64 0, .int .i64 0, .string { data := #[] }, .string { data := #[] }]) Tryz.underlying29 hi hz0 .i64 .i64 0 ((n + 3 : Nat) : Int) (by omega) (by omega) (by rw [hz2]; omega) (by omega)
    rw [hz1, Int.toNat_natCast, show ((n + 3 : Nat) : Int) = (n : Int) + 3 by omega] at hr
    exact hr
  generalize hZ : madeCells (Value.cells (.agg #[.string { data := #[] }, .int .i64 0, .int .i64 0, .int .i64 0, .int .i64 0, .string { data := #[] }, .string { data := #[] }])) ((n + 3) * 7) = mk at hmk3
  have HMl := Lib.hid (show mk.size = (n + 3) * 7 by rw [← hZ, size_madeCells])
  clear hZ
  obtain ⟨bX, hbX⟩ : ∃ bX, bX = w.heap.size := ⟨_, rfl⟩
  have HBX := Lib.hid hbX
  obtain ⟨g, hg⟩ : ∃ g, g = w.heap.size + 1 := ⟨_, rfl⟩
  have HG := Lib.hid (show w.heap.size ≤ g by omega)
  have hgX : g ≠ bX := by omega
  cases A with
  | none =>
    obtain rfl : n = 0 := HA.out rfl
    have hx : cs = [] := List.eq_nil_of_length_eq_zero (by simpa using HCl.out)
    subst hx
    clear HC HA H1
    have hmk4 : ∀ W : World, (Instr.makeSlice 29 (.int .i64 0) (.int .i64 3)).run Tryz.prog W = .ok (.slice (some ⟨W.heap.size, 0, none⟩) 0 3) (W.alloc (.cells mk 37)) := hmk3
    clear hmk3
    go_enter Tryz.func7, Tryz.ntmps7
    go_wp2_with (at_builtin; refine wpList_append_nilc rfl _ _ 29 rfl 37 i0 Tryz.underlying29 hi (w.heap.size + 1) 0 3 cap rfl rfl (by omega) ?_)
    have HF := Lib.hid (show Fil ((w.alloc (.cells #[.string z0, .int .i64 z1, .int .i64 z2, .int .i64 z3, .int .i64 z4, .string z5, .string z6] 37)).alloc (.cells mk 37)) g 37 (room3 [] [.string z0, .int .i64 z1, .int .i64 z2, .int .i64 z3, .int .i64 z4, .string z5, .string z6]) ((0 + 0) * 7) by
      have := fil_new (w := w.alloc (.cells #[.string z0, .int .i64 z1, .int .i64 z2, .int .i64 z3, .int .i64 z4, .string z5, .string z6] 37)) (t := 37) (us := [.string z0, .int .i64 z1, .int .i64 z2, .int .i64 z3, .int .i64 z4, .string z5, .string z6]) (s := 7) (mk := mk) HMl.out rfl
      rw [szAl] at this
      rw [hg]; exact this)
    have HX := Lib.hid (show Blk ((w.alloc (.cells #[.string z0, .int .i64 z1, .int .i64 z2, .int .i64 z3, .int .i64 z4, .string z5, .string z6] 37)).alloc (.cells mk 37)) bX 37 #[.string z0, .int .i64 z1, .int .i64 z2, .int .i64 z3, .int .i64 z4, .string z5, .string z6] by rw [hbX]; exact HX0.out.alloc _)
    have HB2 : Hid (Mor w ((w.alloc (.cells #[.string z0, .int .i64 z1, .int .i64 z2, .int .i64 z3, .int .i64 z4, .string z5, .string z6] 37)).alloc (.cells mk 37))) := Lib.hid (HM0.out.alloc (o := .cells mk 37))
    generalize (w.alloc (.cells #[.string z0, .int .i64 z1, .int .i64 z2, .int .i64 z3, .int .i64 z4, .string z5, .string z6] 37)).alloc (.cells mk 37) = w2 at *
    rw [← hg, ← hbX]
    clear hmk4 HX0 HM0 HMl hg hbX HBX
    go_wp2
    go_loopw [13] (fun i wr => ∃ k : Nat, k ≤ 3 ∧ i = .int .i64 k ∧ Hid (Fil wr g 37 (room3 [] [.string z0, .int .i64 z1, .int .i64 z2, .int .i64 z3, .int .i64 z4, .string z5, .string z6]) ((0 + k) * 7)) ∧ Hid (Blk wr bX 37 #[.string z0, .int .i64 z1, .int .i64 z2, .int .i64 z3, .int .i64 z4, .string z5, .string z6]) ∧ Hid (Mor w wr)) (fun i _ => 3 - (intOf i).toNat)
    case atStart => exact ⟨0, Nat.zero_le _, rfl, HF, HX, HB2⟩
    case round =>
      obtain ⟨k, hk, rfl, HBk, HXk, HMk⟩ := hrel
      by_cases hlt : k < 3
      · have hki : (k : Int) < 3 := by omega
        have hk0 : (0 : Int) ≤ (k : Int) := by omega
        have e4 : IntKind.i64.wrap (k : Int) = (k : Int) := by rw [IntKind.wrap_i64]; omega
        obtain ⟨ds, hds, hsz, hdj⟩ := HBk.out
        have htl : (room3 [] [.string z0, .int .i64 z1, .int .i64 z2, .int .i64 z3, .int .i64 z4, .string z5, .string z6]).length = (0 + 3) * 7 := by rw [room3_len, HCl.out]; simp; try omega
        have hbx : bX < wr.heap.size := HXk.out.lt
        have hgl : g < wr.heap.size := hds.lt
        have x0 : wr.cell? ⟨bX, 0, none⟩ = some (.string z0) := by rw [HXk.out.cell]; rfl
        have x1 : wr.cell? ⟨bX, 1, none⟩ = some (.int .i64 z1) := by rw [HXk.out.cell]; rfl
        have x2 : wr.cell? ⟨bX, 2, none⟩ = some (.int .i64 z2) := by rw [HXk.out.cell]; rfl
        have x3 : wr.cell? ⟨bX, 3, none⟩ = some (.int .i64 z3) := by rw [HXk.out.cell]; rfl
        have x4 : wr.cell? ⟨bX, 4, none⟩ = some (.int .i64 z4) := by rw [HXk.out.cell]; rfl
        have x5 : wr.cell? ⟨bX, 5, none⟩ = some (.string z5) := by rw [HXk.out.cell]; rfl
        have x6 : wr.cell? ⟨bX, 6, none⟩ = some (.string z6) := by rw [HXk.out.cell]; rfl
        have hf : ∀ o, wr.frozen? ⟨g, o, none⟩ = false := fun o => hds.frozen o
        obtain ⟨y0, c0⟩ := blk_some hds (k * 7) (by omega)
        obtain ⟨y1, c1⟩ := blk_some hds (k * 7 + 1) (by omega)
        obtain ⟨y2, c2⟩ := blk_some hds (k * 7 + 2) (by omega)
        obtain ⟨y3, c3⟩ := blk_some hds (k * 7 + 3) (by omega)
        obtain ⟨y4, c4⟩ := blk_some hds (k * 7 + 4) (by omega)
        obtain ⟨y5, c5⟩ := blk_some hds (k * 7 + 5) (by omega)
        obtain ⟨y6, c6⟩ := blk_some hds (k * 7 + 6) (by omega)
        have hnx := Fil.next (us := [.string z0, .int .i64 z1, .int .i64 z2, .int .i64 z3, .int .i64 z4, .string z5, .string z6]) hsz hdj (by rw [htl]; simp; try omega) (fun i hi => room3_get [] [.string z0, .int .i64 z1, .int .i64 z2, .int .i64 z3, .int .i64 z4, .string z5, .string z6] HCl.out rfl k i (by omega) (by simpa using hi))
        have HNx := Lib.hid (show (setL ds (k * 7) [.string z0, .int .i64 z1, .int .i64 z2, .int .i64 z3, .int .i64 z4, .string z5, .string z6]).size = (room3 [] [.string z0, .int .i64 z1, .int .i64 z2, .int .i64 z3, .int .i64 z4, .string z5, .string z6]).length ∧ ∀ j, j < (0 + (k + 1)) * 7 → (setL ds (k * 7) [.string z0, .int .i64 z1, .int .i64 z2, .int .i64 z3, .int .i64 z4, .string z5, .string z6])[j]? = (room3 [] [.string z0, .int .i64 z1, .int .i64 z2, .int .i64 z3, .int .i64 z4, .string z5, .string z6])[j]? from by
          have e6 : (0 + k) * 7 = k * 7 := by rw [Nat.zero_add]
          rw [e6] at hnx
          refine ⟨hnx.1, fun j hj => hnx.2 j ?_⟩
          simp only [List.length_cons, List.length_nil]
          omega)
        have hny := HNx.out
        simp only [setL, Nat.add_assoc, Nat.reduceAdd] at hny
        have HNy := Lib.hid hny
        clear HBk HNx
        have HDs := Lib.hid hds
        clear hds hsz hdj hnx hny htl
        go_wp2
        go_region
        go_wp2
        go_roundw
        case rel => exact ⟨k + 1, hlt, by go_num, Lib.hid (show Fil _ g 37 (room3 [] [.string z0, .int .i64 z1, .int .i64 z2, .int .i64 z3, .int .i64 z4, .string z5, .string z6]) ((0 + (k + 1)) * 7) from ⟨_, Blk.drew (Blk.set_ (Blk.set_ (Blk.set_ (Blk.set_ (Blk.set_ (Blk.set_ (Blk.set_ HDs.out (k * 7) (.string z0)) (k * 7 + 1) (.int .i64 z1)) (k * 7 + 2) (.int .i64 z2)) (k * 7 + 3) (.int .i64 z3)) (k * 7 + 4) (.int .i64 z4)) (k * 7 + 5) (.string z5)) (k * 7 + 6) (.string z6)), HNy.out⟩), Lib.hid (by exact Blk.drew (blk_off (i := k * 7 + 6) (u := .string z6) (blk_off (i := k * 7 + 5) (u := .string z5) (blk_off (i := k * 7 + 4) (u := .int .i64 z4) (blk_off (i := k * 7 + 3) (u := .int .i64 z3) (blk_off (i := k * 7 + 2) (u := .int .i64 z2) (blk_off (i := k * 7 + 1) (u := .int .i64 z1) (blk_off (i := k * 7) (u := .string z0) HXk.out hgX) hgX) hgX) hgX) hgX) hgX) hgX)), Lib.hid (Mor.drew (Mor.of_below (Below.setCell (p := (⟨g, k * 7 + 6, none⟩ : Addr)) (Below.setCell (p := (⟨g, k * 7 + 5, none⟩ : Addr)) (Below.setCell (p := (⟨g, k * 7 + 4, none⟩ : Addr)) (Below.setCell (p := (⟨g, k * 7 + 3, none⟩ : Addr)) (Below.setCell (p := (⟨g, k * 7 + 2, none⟩ : Addr)) (Below.setCell (p := (⟨g, k * 7 + 1, none⟩ : Addr)) (Below.setCell (p := (⟨g, k * 7, none⟩ : Addr)) HMk.out.below (by exact HG.out) (.string z0)) (by exact HG.out) (.int .i64 z1)) (by exact HG.out) (.int .i64 z2)) (by exact HG.out) (.int .i64 z3)) (by exact HG.out) (.int .i64 z4)) (by exact HG.out) (.string z5)) (by exact HG.out) (.string z6))))⟩
        case measure => simp [intOf]; omega
      · obtain rfl : k = 3 := by omega
        have HBf := Lib.hid (show Blk wr g 37 (room3 [] [.string z0, .int .i64 z1, .int .i64 z2, .int .i64 z3, .int .i64 z4, .string z5, .string z6]).toArray from HBk.out.all (by rw [room3_len, HCl.out]; simp; try omega))
        go_wp2
        go_ret
        exact ⟨g, rfl, HG.out, HMk.out, HBf.out⟩
  | some y =>
    have HCy := Lib.hid (fun (W : World) (hW : Mor w W) => HC.out W hW y rfl)
    clear HC HA
    go_enter Tryz.func7, Tryz.ntmps7
    go_wp2_with (at_builtin; refine wpList_append_own_spare _ rfl _ _ 29 rfl (w.heap.size + 1) 37 i0 7 Tryz.underlying29 hi hz1 (w.heap.size + 1) 0 (n + 3) [] rfl ⟨by simp, .inr ⟨w.heap.size + 1, n + 3, mk, rfl, Nat.le_refl _, (by have := heap_alloc_new (w.alloc (.cells #[.string z0, .int .i64 z1, .int .i64 z2, .int .i64 z3, .int .i64 z4, .string z5, .string z6] 37)) (.cells mk 37); rw [szAl] at this; exact this), Nat.zero_le _, by unfold maxLen; omega, HMl.out, by simp⟩⟩ y n cap cs rfl HCl.out ?_ ?_ ?_ ?_)
    · exact fun j u hu => HCy.out _ (HM0.out.alloc) j u hu
    · exact H1.out
    · omega
    · intro w2 hown2 hgrow2
      have HF := Lib.hid (show Fil w2 g 37 (room3 cs [.string z0, .int .i64 z1, .int .i64 z2, .int .i64 z3, .int .i64 z4, .string z5, .string z6]) ((n + 0) * 7) by
        rw [hg]
        exact own_fil (n := n) (c := n + 3) (cs := cs) (s := 7) (by simpa using hown2) rfl rfl)
      have HX := Lib.hid (show Blk w2 bX 37 #[.string z0, .int .i64 z1, .int .i64 z2, .int .i64 z3, .int .i64 z4, .string z5, .string z6] by
        rw [hbX]
        exact (hgrow2.block w.heap.size (by simp; omega) (by intro e; injection e with e; omega)).trans (HX0.out.alloc _))
      have HB2 := Lib.hid (show Mor w w2 from grown_morR (HM0.out.alloc (o := .cells mk 37)) hgrow2 (by omega))
      clear hown2 hgrow2 hmk3
      rw [← hg, ← hbX]
      clear HX0 HM0 HMl hg hbX HBX HCy H1
      go_wp2
      go_loopw [13] (fun i wr => ∃ k : Nat, k ≤ 3 ∧ i = .int .i64 k ∧ Hid (Fil wr g 37 (room3 cs [.string z0, .int .i64 z1, .int .i64 z2, .int .i64 z3, .int .i64 z4, .string z5, .string z6]) ((n + k) * 7)) ∧ Hid (Blk wr bX 37 #[.string z0, .int .i64 z1, .int .i64 z2, .int .i64 z3, .int .i64 z4, .string z5, .string z6]) ∧ Hid (Mor w wr)) (fun i _ => 3 - (intOf i).toNat)
      case atStart => exact ⟨0, Nat.zero_le _, rfl, HF, HX, HB2⟩
      case round =>
        obtain ⟨k, hk, rfl, HBk, HXk, HMk⟩ := hrel
        by_cases hlt : k < 3
        · have hki : (k : Int) < 3 := by omega
          have hk0 : (0 : Int) ≤ (k : Int) := by omega
          obtain ⟨r, hr⟩ : ∃ r : Nat, r = n + k := ⟨_, rfl⟩
          have hrn : r < n + 3 := by omega
          have e4 : IntKind.i64.wrap ((n : Int) + (k : Int)) = (r : Int) := by rw [IntKind.wrap_i64]; omega
          have hr1 : (r : Int) < ((n + 3 : Nat) : Int) := by omega
          have hr0 : (0 : Int) ≤ (r : Int) := by omega
          obtain ⟨ds, hds, hsz, hdj⟩ := HBk.out
          have htl : (room3 cs [.string z0, .int .i64 z1, .int .i64 z2, .int .i64 z3, .int .i64 z4, .string z5, .string z6]).length = (n + 3) * 7 := by rw [room3_len, HCl.out]; simp; try omega
          have hbx : bX < wr.heap.size := HXk.out.lt
          have hgl : g < wr.heap.size := hds.lt
          have x0 : wr.cell? ⟨bX, 0, none⟩ = some (.string z0) := by rw [HXk.out.cell]; rfl
          have x1 : wr.cell? ⟨bX, 1, none⟩ = some (.int .i64 z1) := by rw [HXk.out.cell]; rfl
          have x2 : wr.cell? ⟨bX, 2, none⟩ = some (.int .i64 z2) := by rw [HXk.out.cell]; rfl
          have x3 : wr.cell? ⟨bX, 3, none⟩ = some (.int .i64 z3) := by rw [HXk.out.cell]; rfl
          have x4 : wr.cell? ⟨bX, 4, none⟩ = some (.int .i64 z4) := by rw [HXk.out.cell]; rfl
          have x5 : wr.cell? ⟨bX, 5, none⟩ = some (.string z5) := by rw [HXk.out.cell]; rfl
          have x6 : wr.cell? ⟨bX, 6, none⟩ = some (.string z6) := by rw [HXk.out.cell]; rfl
          have hf : ∀ o, wr.frozen? ⟨g, o, none⟩ = false := fun o => hds.frozen o
          obtain ⟨y0, c0⟩ := blk_some hds (r * 7) (by omega)
          obtain ⟨y1, c1⟩ := blk_some hds (r * 7 + 1) (by omega)
          obtain ⟨y2, c2⟩ := blk_some hds (r * 7 + 2) (by omega)
          obtain ⟨y3, c3⟩ := blk_some hds (r * 7 + 3) (by omega)
          obtain ⟨y4, c4⟩ := blk_some hds (r * 7 + 4) (by omega)
          obtain ⟨y5, c5⟩ := blk_some hds (r * 7 + 5) (by omega)
          obtain ⟨y6, c6⟩ := blk_some hds (r * 7 + 6) (by omega)
          have hnx := Fil.next (us := [.string z0, .int .i64 z1, .int .i64 z2, .int .i64 z3, .int .i64 z4, .string z5, .string z6]) hsz hdj (by rw [htl]; simp; try omega) (fun i hi => room3_get cs [.string z0, .int .i64 z1, .int .i64 z2, .int .i64 z3, .int .i64 z4, .string z5, .string z6] HCl.out rfl k i (by omega) (by simpa using hi))
          have HNx := Lib.hid (show (setL ds (r * 7) [.string z0, .int .i64 z1, .int .i64 z2, .int .i64 z3, .int .i64 z4, .string z5, .string z6]).size = (room3 cs [.string z0, .int .i64 z1, .int .i64 z2, .int .i64 z3, .int .i64 z4, .string z5, .string z6]).length ∧ ∀ j, j < (n + (k + 1)) * 7 → (setL ds (r * 7) [.string z0, .int .i64 z1, .int .i64 z2, .int .i64 z3, .int .i64 z4, .string z5, .string z6])[j]? = (room3 cs [.string z0, .int .i64 z1, .int .i64 z2, .int .i64 z3, .int .i64 z4, .string z5, .string z6])[j]? from by
            have e6 : (n + k) * 7 = r * 7 := by rw [hr]
            rw [e6] at hnx
            refine ⟨hnx.1, fun j hj => hnx.2 j ?_⟩
            simp only [List.length_cons, List.length_nil]
            omega)
          have hny := HNx.out
          simp only [setL, Nat.add_assoc, Nat.reduceAdd] at hny
          have HNy := Lib.hid hny
          clear HBk HNx
          have HDs := Lib.hid hds
          clear hds hsz hdj hnx hny htl hr
          go_wp2
          go_region
          go_wp2
          go_roundw
          case rel => exact ⟨k + 1, hlt, by go_num, Lib.hid (show Fil _ g 37 (room3 cs [.string z0, .int .i64 z1, .int .i64 z2, .int .i64 z3, .int .i64 z4, .string z5, .string z6]) ((n + (k + 1)) * 7) from ⟨_, Blk.drew (Blk.set_ (Blk.set_ (Blk.set_ (Blk.set_ (Blk.set_ (Blk.set_ (Blk.set_ HDs.out (r * 7) (.string z0)) (r * 7 + 1) (.int .i64 z1)) (r * 7 + 2) (.int .i64 z2)) (r * 7 + 3) (.int .i64 z3)) (r * 7 + 4) (.int .i64 z4)) (r * 7 + 5) (.string z5)) (r * 7 + 6) (.string z6)), HNy.out⟩), Lib.hid (by exact Blk.drew (blk_off (i := r * 7 + 6) (u := .string z6) (blk_off (i := r * 7 + 5) (u := .string z5) (blk_off (i := r * 7 + 4) (u := .int .i64 z4) (blk_off (i := r * 7 + 3) (u := .int .i64 z3) (blk_off (i := r * 7 + 2) (u := .int .i64 z2) (blk_off (i := r * 7 + 1) (u := .int .i64 z1) (blk_off (i := r * 7) (u := .string z0) HXk.out hgX) hgX) hgX) hgX) hgX) hgX) hgX)), Lib.hid (Mor.drew (Mor.of_below (Below.setCell (p := (⟨g, r * 7 + 6, none⟩ : Addr)) (Below.setCell (p := (⟨g, r * 7 + 5, none⟩ : Addr)) (Below.setCell (p := (⟨g, r * 7 + 4, none⟩ : Addr)) (Below.setCell (p := (⟨g, r * 7 + 3, none⟩ : Addr)) (Below.setCell (p := (⟨g, r * 7 + 2, none⟩ : Addr)) (Below.setCell (p := (⟨g, r * 7 + 1, none⟩ : Addr)) (Below.setCell (p := (⟨g, r * 7, none⟩ : Addr)) HMk.out.below (by exact HG.out) (.string z0)) (by exact HG.out) (.int .i64 z1)) (by exact HG.out) (.int .i64 z2)) (by exact HG.out) (.int .i64 z3)) (by exact HG.out) (.int .i64 z4)) (by exact HG.out) (.string z5)) (by exact HG.out) (.string z6))))⟩
          case measure => simp [intOf]; omega
        · obtain rfl : k = 3 := by omega
          have HBf := Lib.hid (show Blk wr g 37 (room3 cs [.string z0, .int .i64 z1, .int .i64 z2, .int .i64 z3, .int .i64 z4, .string z5, .string z6]).toArray from HBk.out.all (by rw [room3_len, HCl.out]; simp; try omega))
          go_wp2
          go_ret
          exact ⟨g, rfl, HG.out, HMk.out, HBf.out⟩

set_option maxHeartbeats 3200000 in
theorem marked_pl (g n : Nat) (cs : List Value) (z0 : ByteArray) (z1 : Int) (z2 : Int) (z3 : Int) (z4 : Int) (z5 : ByteArray) (z6 : ByteArray) (w : World) (h : Blk w g 37 (room3 cs [.string z0, .int .i64 z1, .int .i64 z2, .int .i64 z3, .int .i64 z4, .string z5, .string z6]).toArray) (hn : cs.length = n * 7) (hl : n ≤ 1759218604441) :
    Calls Tryz.prog 23 #[.slice (some ⟨g, 0, none⟩) n (n + 3), .agg #[.string z0, .int .i64 z1, .int .i64 z2, .int .i64 z3, .int .i64 z4, .string z5, .string z6]] w fun e w' => e = .returned (.bool true) ∧ Mor w w' := by
  have HC := Lib.hid (fun (W : World) (hW : Mor w W) (k : Nat) (hk : k < 3) (i : Nat) (hi : i < 7) (u : Value) (hu : ([.string z0, .int .i64 z1, .int .i64 z2, .int .i64 z3, .int .i64 z4, .string z5, .string z6] : List Value)[i]? = some u) => show W.cell? ⟨g, (n + k) * 7 + i, none⟩ = some u from blk_at (h.below hW.below h.lt) _ ((room3_get cs [.string z0, .int .i64 z1, .int .i64 z2, .int .i64 z3, .int .i64 z4, .string z5, .string z6] hn rfl k i hk hi).trans hu))
  have HGl := Lib.hid h.lt
  have HX0 := Lib.hid (Blk.new w 37 #[.string z0, .int .i64 z1, .int .i64 z2, .int .i64 z3, .int .i64 z4, .string z5, .string z6])
  have HM0 := Lib.hid ((Mor.refl w).alloc (o := .cells #[.string z0, .int .i64 z1, .int .i64 z2, .int .i64 z3, .int .i64 z4, .string z5, .string z6] 37))
  clear h hn
  have e3 : n + 3 - n = 3 := by omega
  obtain ⟨bX, hbX⟩ : ∃ bX, bX = w.heap.size := ⟨_, rfl⟩
  go_enter Tryz.func23, Tryz.ntmps23
  go_wp2
  generalize w.alloc (.cells #[.string z0, .int .i64 z1, .int .i64 z2, .int .i64 z3, .int .i64 z4, .string z5, .string z6] 37) = w2 at *
  rw [← hbX] at HX0
  rw [← hbX]
  clear hbX
  go_loopw [14] (fun i wr => ∃ k : Nat, k ≤ 3 ∧ i = .int .i64 k ∧ Hid (Blk wr bX 37 #[.string z0, .int .i64 z1, .int .i64 z2, .int .i64 z3, .int .i64 z4, .string z5, .string z6]) ∧ Hid (Mor w wr)) (fun i _ => 3 - (intOf i).toNat)
  case atStart => exact ⟨0, Nat.zero_le _, rfl, HX0, HM0⟩
  case round =>
    obtain ⟨k, hk, rfl, HXk, HMk⟩ := hrel
    by_cases hlt : k < 3
    · have hki : (k : Int) < 3 := by omega
      have hk0 : (0 : Int) ≤ (k : Int) := by omega
      have hbx : bX < wr.heap.size := HXk.out.lt
      have hgl : g < wr.heap.size := by have := HGl.out; have := HMk.out.below.size; omega
      have x0 : wr.cell? ⟨bX, 0, none⟩ = some (.string z0) := by rw [HXk.out.cell]; rfl
      have y0 : wr.cell? ⟨g, n * 7 + k * 7, none⟩ = some (.string z0) := by have := HC.out wr HMk.out k (by omega) 0 (by omega) _ rfl; rw [Nat.add_mul] at this; simpa using this
      have x1 : wr.cell? ⟨bX, 1, none⟩ = some (.int .i64 z1) := by rw [HXk.out.cell]; rfl
      have y1 : wr.cell? ⟨g, n * 7 + k * 7 + 1, none⟩ = some (.int .i64 z1) := by have := HC.out wr HMk.out k (by omega) 1 (by omega) _ rfl; rw [Nat.add_mul] at this; simpa using this
      have x2 : wr.cell? ⟨bX, 2, none⟩ = some (.int .i64 z2) := by rw [HXk.out.cell]; rfl
      have y2 : wr.cell? ⟨g, n * 7 + k * 7 + 2, none⟩ = some (.int .i64 z2) := by have := HC.out wr HMk.out k (by omega) 2 (by omega) _ rfl; rw [Nat.add_mul] at this; simpa using this
      have x3 : wr.cell? ⟨bX, 3, none⟩ = some (.int .i64 z3) := by rw [HXk.out.cell]; rfl
      have y3 : wr.cell? ⟨g, n * 7 + k * 7 + 3, none⟩ = some (.int .i64 z3) := by have := HC.out wr HMk.out k (by omega) 3 (by omega) _ rfl; rw [Nat.add_mul] at this; simpa using this
      have x4 : wr.cell? ⟨bX, 4, none⟩ = some (.int .i64 z4) := by rw [HXk.out.cell]; rfl
      have y4 : wr.cell? ⟨g, n * 7 + k * 7 + 4, none⟩ = some (.int .i64 z4) := by have := HC.out wr HMk.out k (by omega) 4 (by omega) _ rfl; rw [Nat.add_mul] at this; simpa using this
      have x5 : wr.cell? ⟨bX, 5, none⟩ = some (.string z5) := by rw [HXk.out.cell]; rfl
      have y5 : wr.cell? ⟨g, n * 7 + k * 7 + 5, none⟩ = some (.string z5) := by have := HC.out wr HMk.out k (by omega) 5 (by omega) _ rfl; rw [Nat.add_mul] at this; simpa using this
      have x6 : wr.cell? ⟨bX, 6, none⟩ = some (.string z6) := by rw [HXk.out.cell]; rfl
      have y6 : wr.cell? ⟨g, n * 7 + k * 7 + 6, none⟩ = some (.string z6) := by have := HC.out wr HMk.out k (by omega) 6 (by omega) _ rfl; rw [Nat.add_mul] at this; simpa using this
      have HXn := Lib.hid (fun (W : World) (hW : Mor wr W) => show Blk W bX 37 #[.string z0, .int .i64 z1, .int .i64 z2, .int .i64 z3, .int .i64 z4, .string z5, .string z6] from HXk.out.below hW.below HXk.out.lt)
      go_wp2
      go_roundw
      case rel => exact ⟨k + 1, hlt, by go_num, Lib.hid (HXn.out _ (Mor.refl _).alloc), Lib.hid HMk.out.alloc⟩
      case measure => simp [intOf]; omega
    · obtain rfl : k = 3 := by omega
      go_wp2
      go_returns
      exact ⟨rfl, HMk.out⟩

set_option maxHeartbeats 3200000 in
theorem spoilS_pl (g n cap : Nat) (cs : Array Value) (z0 : ByteArray) (z1 : Int) (z2 : Int) (z3 : Int) (z4 : Int) (z5 : ByteArray) (z6 : ByteArray) (w : World) (hb : Blk w g 37 cs) (hl : cs.size = cap * 7) (hn : n ≤ cap) (hm : cap ≤ maxLen) :
    Calls Tryz.prog 28 #[.slice (some ⟨g, 0, none⟩) n cap, .agg #[.string z0, .int .i64 z1, .int .i64 z2, .int .i64 z3, .int .i64 z4, .string z5, .string z6]] w fun e w' => e = .returned (.tuple #[]) ∧ w.grownBy w' (some g) ∧ ∃ ds, Blk w' g 37 ds ∧ ds.size = cap * 7 := by
  have HB := Lib.hid hb
  have HL := Lib.hid hl
  have hmx : (cap : Int) ≤ 9223372036854775807 := by unfold maxLen at hm; omega
  have HX := Lib.hid (Blk.new w 37 #[.string z0, .int .i64 z1, .int .i64 z2, .int .i64 z3, .int .i64 z4, .string z5, .string z6])
  have HG := Lib.hid (World.grownBy_alloc w (.cells #[.string z0, .int .i64 z1, .int .i64 z2, .int .i64 z3, .int .i64 z4, .string z5, .string z6] 37) (some g))
  have HBa := Lib.hid (hb.alloc (.cells #[.string z0, .int .i64 z1, .int .i64 z2, .int .i64 z3, .int .i64 z4, .string z5, .string z6] 37))
  have hgw := hb.lt
  clear hb hl hm
  obtain ⟨bX, hX⟩ : ∃ bX, bX = w.heap.size := ⟨_, rfl⟩
  have hgX : g ≠ bX := by omega
  go_enter Tryz.func28, Tryz.ntmps28
  go_wp2
  generalize w.alloc (.cells #[.string z0, .int .i64 z1, .int .i64 z2, .int .i64 z3, .int .i64 z4, .string z5, .string z6] 37) = w0 at *
  rw [← hX] at HX
  rw [← hX]
  clear hX hgw
  go_loopw [11] (fun i wr => ∃ k : Nat, k ≤ cap ∧ i = .int .i64 k ∧ Hid (∃ ds, Blk wr g 37 ds ∧ ds.size = cap * 7) ∧ Hid (Blk wr bX 37 #[.string z0, .int .i64 z1, .int .i64 z2, .int .i64 z3, .int .i64 z4, .string z5, .string z6]) ∧ Hid (w.grownBy wr (some g))) (fun i _ => cap - (intOf i).toNat)
  case atStart => exact ⟨0, Nat.zero_le _, rfl, Lib.hid ⟨_, HBa.out, HL.out⟩, HX, HG⟩
  case round =>
    obtain ⟨k, hk, rfl, HBk, HXk, HGk⟩ := hrel
    obtain ⟨ds, hds, hsz⟩ := HBk.out
    by_cases hlt : k < cap
    · have hki : (k : Int) < (cap : Int) := by omega
      have hf : ∀ o, wr.frozen? ⟨g, o, none⟩ = false := fun o => hds.frozen o
      have hg : g < wr.heap.size := hds.lt
      have hbx : bX < wr.heap.size := HXk.out.lt
      have x0 : wr.cell? ⟨bX, 0, none⟩ = some (.string z0) := by rw [HXk.out.cell]; rfl
      have x1 : wr.cell? ⟨bX, 1, none⟩ = some (.int .i64 z1) := by rw [HXk.out.cell]; rfl
      have x2 : wr.cell? ⟨bX, 2, none⟩ = some (.int .i64 z2) := by rw [HXk.out.cell]; rfl
      have x3 : wr.cell? ⟨bX, 3, none⟩ = some (.int .i64 z3) := by rw [HXk.out.cell]; rfl
      have x4 : wr.cell? ⟨bX, 4, none⟩ = some (.int .i64 z4) := by rw [HXk.out.cell]; rfl
      have x5 : wr.cell? ⟨bX, 5, none⟩ = some (.string z5) := by rw [HXk.out.cell]; rfl
      have x6 : wr.cell? ⟨bX, 6, none⟩ = some (.string z6) := by rw [HXk.out.cell]; rfl
      obtain ⟨y0, c0⟩ := blk_some hds (k * 7) (by omega)
      obtain ⟨y1, c1⟩ := blk_some hds (k * 7 + 1) (by omega)
      obtain ⟨y2, c2⟩ := blk_some hds (k * 7 + 2) (by omega)
      obtain ⟨y3, c3⟩ := blk_some hds (k * 7 + 3) (by omega)
      obtain ⟨y4, c4⟩ := blk_some hds (k * 7 + 4) (by omega)
      obtain ⟨y5, c5⟩ := blk_some hds (k * 7 + 5) (by omega)
      obtain ⟨y6, c6⟩ := blk_some hds (k * 7 + 6) (by omega)
      clear HBk
      have HDs := Lib.hid hds
      have HSz := Lib.hid hsz
      clear hds hsz
      go_wp2
      go_roundw
      case rel => exact ⟨k + 1, hlt, by go_num, Lib.hid ⟨_, (Blk.set_ (Blk.set_ (Blk.set_ (Blk.set_ (Blk.set_ (Blk.set_ (Blk.set_ HDs.out (k * 7) (.string z0)) (k * 7 + 1) (.int .i64 z1)) (k * 7 + 2) (.int .i64 z2)) (k * 7 + 3) (.int .i64 z3)) (k * 7 + 4) (.int .i64 z4)) (k * 7 + 5) (.string z5)) (k * 7 + 6) (.string z6)), (set_size _ _ _ (set_size _ _ _ (set_size _ _ _ (set_size _ _ _ (set_size _ _ _ (set_size _ _ _ (set_size _ _ _ HSz.out)))))))⟩, Lib.hid (blk_off (i := k * 7 + 6) (u := .string z6) (blk_off (i := k * 7 + 5) (u := .string z5) (blk_off (i := k * 7 + 4) (u := .int .i64 z4) (blk_off (i := k * 7 + 3) (u := .int .i64 z3) (blk_off (i := k * 7 + 2) (u := .int .i64 z2) (blk_off (i := k * 7 + 1) (u := .int .i64 z1) (blk_off (i := k * 7) (u := .string z0) HXk.out hgX) hgX) hgX) hgX) hgX) hgX) hgX), Lib.hid (grown_set (i := k * 7 + 6) (u := .string z6) (grown_set (i := k * 7 + 5) (u := .string z5) (grown_set (i := k * 7 + 4) (u := .int .i64 z4) (grown_set (i := k * 7 + 3) (u := .int .i64 z3) (grown_set (i := k * 7 + 2) (u := .int .i64 z2) (grown_set (i := k * 7 + 1) (u := .int .i64 z1) (grown_set (i := k * 7) (u := .string z0) HGk.out)))))))⟩
      case measure => simp [intOf]; omega
    · obtain rfl : k = cap := by omega
      have HDz := Lib.hid (show ∃ ds, Blk wr g 37 ds ∧ ds.size = k * 7 from ⟨ds, hds, hsz⟩)
      clear hds hsz
      go_wp2
      go_returns
      exact ⟨rfl, HGk.out, HDz.out⟩
theorem spoil_pl (g n cap : Nat) (cs : Array Value) (z0 : ByteArray) (z1 : Int) (z2 : Int) (z3 : Int) (z4 : Int) (z5 : ByteArray) (z6 : ByteArray) (w : World) (hb : Blk w g 37 cs) (hl : cs.size = cap * 7) (hn : n ≤ cap) (hm : cap ≤ maxLen) :
    Calls Tryz.prog 28 #[.slice (some ⟨g, 0, none⟩) n cap, .agg #[.string z0, .int .i64 z1, .int .i64 z2, .int .i64 z3, .int .i64 z4, .string z5, .string z6]] w fun e w' => e = .returned (.tuple #[]) ∧ w.grownBy w' (some g) :=
  (spoilS_pl g n cap cs z0 z1 z2 z3 z4 z5 z6 w hb hl hn hm).mono (by rintro e w' ⟨h1, h2, _⟩; exact ⟨h1, h2⟩)


end Go.Proofs.YtohpibjjlfpaaaaGreatDoor

/- Plans with room behind them (out of ItB); slices.Equal at plans. -/
namespace Go.Proofs.YtohpibjjlfpaaaaGreatDoor
open Go.ChangeShapes Go.WideShapes Go.ChangeAt Go.RowKit
set_option linter.unusedVariables false
set_option maxRecDepth 100000

/-- a row with room reads as the row -/
theorem Rd.blk3 {w : World} {g : Nat} {t : TypeId} {cs us : List Value} (h : Blk w g t (room3 cs us).toArray) : Rd w (some ⟨g, 0, none⟩) cs := by
  refine .inr ⟨g, 0, rfl, h.lt, fun i hi => ?_⟩
  rw [Nat.zero_add, h.cell, List.getElem?_toArray, room3_old _ _ _ hi, List.getD_eq_getElem?_getD, List.getElem?_eq_getElem hi]; rfl
/-- the seven cells of a plan -/
def pl7 (p : Pln) : List Value := [.string p.key, .int .i64 p.kind, .int .i64 p.frm, .int .i64 p.amt, .int .i64 p.num, .string p.deb, .string p.cre]
theorem pl7_len : ∀ p, (pl7 p).length = 7 := fun _ => rfl
theorem pl7_one (ps : List Pln) : ∀ u ∈ flat pl7 ps, u.oneCell' = true := by
  intro u hu
  simp only [flat, List.mem_flatMap, pl7, List.mem_cons, List.not_mem_nil, or_false] at hu
  obtain ⟨x, _, rfl | rfl | rfl | rfl | rfl | rfl | rfl⟩ := hu <;> rfl
theorem pl_flat {w : World} {x : Addr} {ps : List Pln} (h : Ps w (some x) ps) (j : Nat) (u : Value) (hu : (flat pl7 ps)[j]? = some u) : w.cell? (x.add j) = some u := by
  have hl := flat_len pl7 7 pl7_len ps
  have hj : j < ps.length * 7 := by
    rcases Nat.lt_or_ge j (flat pl7 ps).length with h | h
    · omega
    · rw [List.getElem?_eq_none h] at hu; cases hu
  have hk : j / 7 < ps.length := by omega
  obtain ⟨y, hy, _, _, hp⟩ := h.at_ (j / 7) hk
  injection hy with hy
  subst hy
  have hg := flat_get pl7 7 pl7_len ps (j / 7) (j % 7) hk (by omega) (.int .i64 0)
  rw [show j / 7 * 7 + j % 7 = j by omega, List.getD_eq_getElem?_getD, hu, ← np_eq ps _ hk] at hg
  have hr : j % 7 < 7 := Nat.mod_lt _ (by omega)
  have ej : x.add j = (x.add (j / 7 * 7)).add (j % 7) := by rw [Addr.add_add]; congr 1; omega
  rw [ej]
  generalize j % 7 = r at *
  match r, hr with
  | 0, _ => rw [show (x.add (j / 7 * 7)).add 0 = x.add (j / 7 * 7) by rw [Addr.add_add]; rfl, hp.c0]; simpa [pl7] using hg.symm
  | 1, _ => rw [Addr.add_succ']; exact hp.c1.trans (by simpa [pl7] using hg.symm)
  | 2, _ => rw [Addr.add_succ']; exact hp.c2.trans (by simpa [pl7] using hg.symm)
  | 3, _ => rw [Addr.add_succ']; exact hp.c3.trans (by simpa [pl7] using hg.symm)
  | 4, _ => rw [Addr.add_succ']; exact hp.c4.trans (by simpa [pl7] using hg.symm)
  | 5, _ => rw [Addr.add_succ']; exact hp.c5.trans (by simpa [pl7] using hg.symm)
  | 6, _ => rw [Addr.add_succ']; exact hp.c6.trans (by simpa [pl7] using hg.symm)
theorem Ps.wf {w : World} {A : Option Addr} {ps : List Pln} (h : Ps w A ps) : ∀ i, i < ps.length → Pwf (np ps i) := fun i hi => by
  obtain ⟨_, _, _, hw, _⟩ := h.at_ i hi; exact hw
theorem Ps.blk3 {w : World} {g : Nat} {t : TypeId} {ps : List Pln} {us : List Value} (h : Blk w g t (room3 (flat pl7 ps) us).toArray) (hw : ∀ i, i < ps.length → Pwf (np ps i)) : Ps w (some ⟨g, 0, none⟩) ps := by
  refine .inr ⟨⟨g, 0, none⟩, rfl, h.lt, fun i hi => ⟨hw i hi, ?_⟩⟩
  obtain ⟨b, o, e, _, hc⟩ := Rd.field 7 pl7_len (Rd.blk3 h) i hi (by omega)
  injection e with e
  injection e with e1 e2
  subst e1 e2
  rw [adds]
  rw [← np_eq ps _ hi] at hc
  have h0 := hc 0 (by omega)
  rw [Nat.add_zero] at h0
  exact ⟨h0, hc 1 (by omega), hc 2 (by omega), hc 3 (by omega), hc 4 (by omega), hc 5 (by omega), hc 6 (by omega)⟩
set_option maxHeartbeats 3200000 in
theorem equalG_pl (A B : Option Addr) (n cap cap' : Nat) (ps : List Pln) (w : World) (hr : Ps w A ps) (hs : Ps w B ps) (hn : ps.length = n) (hl : n ≤ 8796093022208) :
    Calls Tryz.prog 22 #[.slice A n cap, .slice B n cap'] w fun e w' => e = .returned (.bool true) ∧ Mor w w' := by
  have HR := Lib.hid hr
  have HS := Lib.hid hs
  have HN := Lib.hid hn
  clear hr hs hn
  go_enter Tryz.func22, Tryz.ntmps22
  go_wp2
  go_loopw [13] (fun i wr => ∃ k : Nat, k ≤ n ∧ i = .int .i64 k ∧ Hid (Mor w wr)) (fun i _ => n - (intOf i).toNat)
  case atStart => exact ⟨0, Nat.zero_le _, rfl, Lib.hid (Mor.refl _)⟩
  case round =>
    obtain ⟨k, hk, rfl, HM⟩ := hrel
    by_cases hlt : k < n
    · have hki : (k : Int) < (n : Int) := by omega
      have hk0 : (0 : Int) ≤ (k : Int) := by omega
      obtain ⟨x, hA, hxb, -, c0, c1, c2, c3, c4, c5, c6⟩ := (HR.out.mor HM.out).at_ k (by rw [HN.out]; exact hlt)
      obtain ⟨y, hB, hyb, -, d0, d1, d2, d3, d4, d5, d6⟩ := (HS.out.mor HM.out).at_ k (by rw [HN.out]; exact hlt)
      subst hA hB
      generalize np ps k = p at *
      obtain ⟨key, kind, frm, amt, num, deb, cre⟩ := p
      simp only at c0 c1 c2 c3 c4 c5 c6 d0 d1 d2 d3 d4 d5 d6
      go_wp2
      go_quiet (fail)
      go_wp2
      go_roundw
      case rel => exact ⟨k + 1, by omega, by go_num, Lib.hid (by repeat (first | exact HM.out | apply Mor.alloc | apply Mor.more | apply Mor.drewN | apply Mor.drew))⟩
      case measure => simp [intOf]; omega
    · obtain rfl : k = n := by omega
      go_wp2
      go_ret
      exact ⟨rfl, HM.out⟩


end Go.Proofs.YtohpibjjlfpaaaaGreatDoor
