/- talkeep.roomy, talkeep.marked, talkeep.spoil at int. -/
import Derived.Test.YtahegjhjonodlaaDoorPNumbersOwnZ1
import Derived.Test.YtahegjhjonodlaaDoorPNumbersOwnZ2
import Derived.Test.YtahegjhjonodlaaDoorPNumbersOwnZ3
import Derived.Test.YtahegjhjonodlaaDoorPNumbersOwnZ4
import Derived.Test.YtahegjhjonodlaaDoorPNumbersOwnZ6
import Derived.Test.YtahegjhjonodlaaDoorPNumbersOwnZ7
import Derived.Test.YtahegjhjonodlaaDoorPNumbersOwnZ25
import Derived.Test.YtahegjhjonodlaaDoorPNumbersOwnZ26
import Derived.Test.YtahegjhjonodlaaDoorPNumbersOwnZ27
import Derived.Test.YtahegjhjonodlaaDoorRows
import Derived.BigQuiet
import Derived.Deep.AppendSrc
import Derived.Deep.DeepAppendRoom
import Derived.Deep.OwnRows
import Derived.Deep.QuietTactic
import Derived.Deep.RegionLaw
import Derived.Handy
import Derived.Lib.Hide
import Derived.OpenShut
import Derived.Outline
import Derived.OwnWalk
import Derived.ProofKit
import Derived.RegionTactic
import Derived.WalkKit
import Derived.WalkSpells
namespace Go.Proofs.YtahegjhjonodlaaDoor
open Go.ChangeShapes Go.WideShapes Go.ChangeAt Go.RowKit
set_option linter.unusedVariables false
set_option maxRecDepth 100000

/-- a world that another became: but for the block g nothing is changed -/
def Chg (g : Nat) (w w' : World) : Prop := w.grownBy w' (some g) ∧ w'.heap.size = w.heap.size
theorem Chg.refl (g : Nat) (w : World) : Chg g w w := ⟨⟨rfl, rfl, rfl, Nat.le_refl _, fun _ _ _ => rfl⟩, rfl⟩
theorem Chg.set_ {g i : Nat} {u : Value} {w w' : World} (h : Chg g w w') : Chg g w (w'.setCell ⟨g, i, none⟩ u) := by
  obtain ⟨⟨h1, h2, h3, h4, h5⟩, h6⟩ := h
  refine ⟨⟨h1, h2, h3, by simpa [World.setCell] using h4, fun k hk hne => ?_⟩, by simpa [World.setCell] using h6⟩
  rw [Below.heap_setCell _ _ _ _ (fun e => hne (by rw [e]))]
  exact h5 k hk hne
theorem Chg.mor {g : Nat} {w w1 w2 : World} (h : Mor w w1) (hc : Chg g w1 w2) (hg : w.heap.size ≤ g) : Mor w w2 := by
  have hb := h.below
  obtain ⟨⟨h1, h2, h3, h4, h5⟩, h6⟩ := hc
  exact Mor.of_below ⟨h1.trans hb.os, h2.trans hb.tape, h3.trans hb.output, by have := hb.size; omega, fun k hk => (h5 k (by have := hb.size; omega) (by intro e; injection e with e; omega)).trans (hb.block k hk)⟩
theorem Chg.blk {g b : Nat} {w w' : World} {t : TypeId} {cs : Array Value} (hc : Chg g w w') (h : Blk w b t cs) (hne : b ≠ g) : Blk w' b t cs :=
  (hc.1.block b h.lt (by intro e; injection e with e; exact hne e)).trans h
/-- the cells of a row that a loop spoils from the front -/
def spl (xs : List Value) (k : Nat) (u : Value) : Array Value := (List.replicate k u ++ xs.drop k).toArray
theorem spl_zero (xs : List Value) (u : Value) : spl xs 0 u = xs.toArray := by simp [spl]
theorem spl_step (xs : List Value) (k : Nat) (u : Value) (h : k < xs.length) : (spl xs k u).setIfInBounds k u = spl xs (k + 1) u := by
  apply Array.ext_getElem?
  intro i
  rw [Array.getElem?_setIfInBounds]
  simp only [spl, List.getElem?_toArray, List.size_toArray, List.length_append, List.length_replicate, List.length_drop]
  rw [List.getElem?_append, List.getElem?_append, List.length_replicate, List.length_replicate, List.getElem?_replicate, List.getElem?_replicate, List.getElem?_drop, List.getElem?_drop]
  by_cases h1 : k = i
  · subst h1; rw [if_pos rfl, if_pos (by omega), if_pos (by omega), if_pos (by omega)]
  · rw [if_neg h1]
    by_cases h2 : i < k
    · rw [if_pos h2, if_pos h2, if_pos (by omega), if_pos (by omega)]
    · rw [if_neg h2, if_neg (by omega)]
      congr 1; omega
theorem spl_size (xs : List Value) (k : Nat) (u : Value) (h : k ≤ xs.length) : (spl xs k u).size = xs.length := by simp [spl]; omega
theorem spl_all (xs : List Value) (u : Value) : spl xs xs.length u = (List.replicate xs.length u).toArray := by simp [spl]

def SpoilPost (w : World) (g : Nat) (t : TypeId) (n : Nat) (u : Value) (e : Ending) (w' : World) : Prop :=
  e = .returned (.tuple #[]) ∧ Chg g w w' ∧ Blk w' g t (List.replicate n u).toArray

/-- the cells of a row whose room is filled from n on -/
def rmy (cs : List Value) (n k : Nat) (u : Value) : Array Value := (cs.take n ++ (List.replicate k u ++ cs.drop (n + k))).toArray
theorem rmy_zero (cs : List Value) (n : Nat) (u : Value) : rmy cs n 0 u = cs.toArray := by simp [rmy]
theorem rmy_get (cs : List Value) (n j i : Nat) (u : Value) (h : n + j ≤ cs.length) : (rmy cs n j u)[i]? = if i < n then cs[i]? else if i - n < j then some u else cs[i]? := by
  simp only [rmy, List.getElem?_toArray]
  rw [List.getElem?_append, List.length_take, Nat.min_eq_left (by omega)]
  by_cases h0 : i < n
  · rw [if_pos h0, if_pos h0, List.getElem?_take, if_pos h0]
  · rw [if_neg h0, if_neg h0, List.getElem?_append, List.length_replicate, List.getElem?_replicate, List.getElem?_drop]
    by_cases h2 : i - n < j
    · rw [if_pos h2, if_pos h2, if_pos h2]
    · rw [if_neg h2, if_neg h2]; congr 1; omega
theorem rmy_step (cs : List Value) (n k : Nat) (u : Value) (h : n + k < cs.length) : (rmy cs n k u).setIfInBounds (n + k) u = rmy cs n (k + 1) u := by
  have hs : (rmy cs n k u).size = cs.length := by simp [rmy]; omega
  apply Array.ext_getElem?
  intro i
  rw [Array.getElem?_setIfInBounds, hs, rmy_get _ _ _ _ _ (by omega), rmy_get _ _ _ _ _ (by omega)]
  by_cases h1 : n + k = i
  · subst h1; rw [if_pos rfl, if_pos h, if_neg (by omega), if_pos (by omega)]
  · rw [if_neg h1]
    by_cases h2 : i < n
    · rw [if_pos h2, if_pos h2]
    · rw [if_neg h2, if_neg h2]
      by_cases h3 : i - n < k
      · rw [if_pos h3, if_pos (by omega)]
      · rw [if_neg h3, if_neg (by omega)]
theorem rmy_size (cs : List Value) (n k : Nat) (u : Value) (h : n + k ≤ cs.length) : (rmy cs n k u).size = cs.length := by simp [rmy]; omega
theorem rmy_all (cs xs : List Value) (n k : Nat) (u : Value) (h : cs.length = n + k) (hx : cs.take n = xs) : rmy cs n k u = (xs ++ List.replicate k u).toArray := by
  unfold rmy; rw [hx, List.drop_of_length_le (by omega), List.append_nil]

def RoomPost (w : World) (n : Nat) (xs : List Int) (x : Int) (e : Ending) (w' : World) : Prop :=
  e = .returned (.slice (some ⟨w.heap.size, 0, none⟩) n (n + 3)) ∧ Mor w w' ∧ Blk w' w.heap.size 3 (ic (xs ++ [x, x, x]))

theorem own_cs {w : World} {B g n cap : Nat} {t : TypeId} {xs : List Value} (h : w.ownsRow B t 1 (.slice (some ⟨g, 0, none⟩) n cap) n xs) :
    ∃ cs : List Value, Blk w g t cs.toArray ∧ cs.length = cap ∧ cs.take n = xs := by
  obtain ⟨_, h | ⟨g', cap', cur, hv, hg, hh, h1, h2, h3, h4⟩⟩ := h
  · cases h.1
  · cases hv
    exact ⟨cur.toList, by exact hh, by simpa using h3, by simpa using h4⟩

theorem wpList_append_nilc {P : Program} {w : World} {ops : Array Oper} {rest : List Oper} {o : Oper} {a : Act} {Q : Exit → Act → World → Prop} (hgd : o.guard = none) (s x : Operand) (t : TypeId)
    (ho : o.op = .call { callee := .builtin .append, args := #[s, x], argTypes := #[t, t] }) (e : TypeId) (i : TypeInfo) (ht : P.underlying t = some (.slice e)) (hi : P.info? e = some i) (g n cap c : Nat)
    (hs : a.eval s = .slice (some ⟨g, 0, none⟩) n cap) (hx : a.eval x = .slice none 0 c) (hroom : n ≤ cap) (h : wpList P ops Q rest (a.put o.dst (.slice (some ⟨g, 0, none⟩) n cap)) w) : wpList P ops Q (o :: rest) a w := by
  refine wpList_plain hgd fun K hK => ?_
  have hrun := run_append_room_src (P := P) w t t o.type e i ht hi g 0 n cap (.slice none 0 c) 0 [] (Src.ofNil w ht c) (by omega) (fun j hj => absurd hj (Nat.not_lt_zero _)) (fun j hj => absurd hj (Nat.not_lt_zero _))
  unfold Oper.wp
  simp [execOp, ho, resolve, invoke, builtin, hs, hx, hrun, Result.andThen, World.setCells]
  exact hK _ _ h

set_option maxHeartbeats 1600000 in
theorem roomy_int (A : Option Addr) (n cap : Nat) (xs : List Int) (x : Int) (w : World) (hr : Ri w A xs) (hn : xs.length = n) (h0 : A = none → n = 0) (hl : n ≤ 17592186044416) :
    Calls Tryd.prog 7 #[.slice A n cap, .int .i64 x] w (RoomPost w n xs x) := by
  obtain ⟨i0, hi, hz0, hz1, hz2⟩ := info_parts info_int'
  obtain ⟨g, hg⟩ : ∃ g, g = w.heap.size := ⟨_, rfl⟩
  have e3 : IntKind.i64.wrap ((n : Int) + 3) = ((n + 3 : Nat) : Int) := by rw [IntKind.wrap_i64]; omega
  have HL := Lib.hid (show (xs.map (Value.int .i64)).length = n by simpa using hn)
  have hc := Lib.hid (fun (W : World) (hW : Mor w W) (y : Addr) (hy : A = some y) j u (hu : (xs.map (Value.int .i64))[j]? = some u) => show W.cell? (y.add j) = some u from by
      subst hy
      have hj : j < xs.length := by
        rcases Nat.lt_or_ge j xs.length with h | h
        · exact h
        · rw [List.getElem?_eq_none (by simpa using h)] at hu; simp at hu
      rw [List.getElem?_map, List.getElem?_eq_getElem hj] at hu
      simp at hu
      rcases (hr.mor hW).lt with e | ⟨_, e⟩
      · subst e; simp at hj
      · rw [e j hj, ← hu, List.getD_eq_getElem?_getD, List.getElem?_eq_getElem hj]; rfl)
  have HA := Lib.hid h0
  have HN := Lib.hid hn
  clear hr hn h0
  have hmk : ∀ W : World, (Instr.makeSlice 22 (.int .i64 0) (.int .i64 ((n : Int) + 3))).run Tryd.prog W = .ok (.slice (some ⟨W.heap.size, 0, none⟩) 0 (n + 3)) (W.alloc (.cells (madeCells #[Value.int .i64 0] (n + 3)) 3)) := by
    intro W
    have hr := run_make (P := Tryd.prog) W 22 3 i0 (.int .i64 0) Tryd.underlying22 hi hz0 .i64 .i64 0 ((n + 3 : Nat) : Int) (by omega) (by omega) (by rw [hz2]; omega) (by omega)
    rw [hz1, Nat.mul_one, Int.toNat_natCast, show ((n + 3 : Nat) : Int) = (n : Int) + 3 by omega] at hr
    exact hr
  cases A with
  | none =>
    obtain rfl : n = 0 := HA.out rfl
    have hx : xs = [] := List.eq_nil_of_length_eq_zero HN.out
    subst hx
    clear hc HA
    have hmk3 : ∀ W : World, (Instr.makeSlice 22 (.int .i64 0) (.int .i64 3)).run Tryd.prog W = .ok (.slice (some ⟨W.heap.size, 0, none⟩) 0 3) (W.alloc (.cells (madeCells #[Value.int .i64 0] 3) 3)) := hmk
    clear hmk
    go_enter Tryd.func7, Tryd.ntmps7
    go_wp2_with (at_builtin; refine wpList_append_nilc rfl _ _ 22 rfl 3 i0 Tryd.underlying22 hi w.heap.size 0 3 cap rfl rfl (by omega) ?_)
    have HC := Lib.hid (show Blk (w.alloc (.cells (madeCells #[Value.int .i64 0] 3) 3)) w.heap.size 3 (madeCells #[Value.int .i64 0] 3).toList.toArray by rw [Array.toArray_toList]; exact Blk.new _ _ _)
    have HB2 : Hid (Mor w (w.alloc (.cells (madeCells #[Value.int .i64 0] 3) 3))) := Lib.hid ((Mor.refl w).alloc (o := .cells (madeCells #[Value.int .i64 0] 3) 3))
    have HCl := Lib.hid (show (madeCells #[Value.int .i64 0] 3).toList.length = 3 by simp [size_madeCells])
    generalize (madeCells #[Value.int .i64 0] 3).toList = cs at HC HCl
    generalize w.alloc (.cells (madeCells #[Value.int .i64 0] 3) 3) = w2 at *
    clear hmk3
    have HG := Lib.hid hg
    rw [← hg]
    rw [← hg] at HC
    clear hg
    go_wp2
    go_loopw [13] (fun i wr => ∃ k : Nat, k ≤ 3 ∧ i = .int .i64 k ∧ Hid (Blk wr g 3 (rmy cs 0 k (.int .i64 x))) ∧ Hid (Mor w wr)) (fun i _ => 3 - (intOf i).toNat)
    case atStart => exact ⟨0, Nat.zero_le _, rfl, Lib.hid (by rw [rmy_zero]; exact HC.out), HB2⟩
    case round =>
      obtain ⟨k, hk, rfl, HBk, HXk⟩ := hrel
      by_cases hlt : k < 3
      · have hki : (k : Int) < 3 := by omega
        have hsz : (rmy cs 0 k (.int .i64 x)).size = 3 := by rw [rmy_size _ _ _ _ (by rw [HCl.out]; omega), HCl.out]
        have e4 : IntKind.i64.wrap (k : Int) = (k : Int) := by rw [IntKind.wrap_i64]; omega
        have hc : ∃ y', wr.cell? ⟨g, k, none⟩ = some y' := ⟨(rmy cs 0 k (.int .i64 x))[k]'(by omega), by rw [HBk.out.cell]; exact Array.getElem?_eq_getElem _⟩
        obtain ⟨y', hc⟩ := hc
        have hf : wr.frozen? ⟨g, k, none⟩ = false := HBk.out.frozen k
        have HS := Lib.hid (show (rmy cs 0 k (.int .i64 x)).setIfInBounds k (.int .i64 x) = rmy cs 0 (k + 1) (.int .i64 x) by have := rmy_step cs 0 k (.int .i64 x) (by rw [HCl.out]; omega); rwa [Nat.zero_add] at this)
        have hr0 : (0 : Int) ≤ (k : Int) := by omega
        clear hsz
        go_wp2
        go_roundw
        case rel => exact ⟨k + 1, hlt, by go_num, Lib.hid (by have := HBk.out.set_ k (.int .i64 x); rw [HS.out] at this; exact this), Lib.hid (Mor.of_below (HXk.out.below.setCell (by rw [HG.out]; exact Nat.le_refl _) _))⟩
        case measure => simp [intOf]; omega
      · obtain rfl : k = 3 := by omega
        have HBf := Lib.hid (show Blk wr g 3 (ic ([] ++ [x, x, x])) by have := HBk.out; rw [rmy_all cs [] 0 3 _ HCl.out (by simp)] at this; simpa [ic] using this)
        have HXf := Lib.hid HXk.out
        rw [HG.out] at HBf
        rw [HG.out]
        go_wp2
        go_ret
        exact ⟨rfl, HXf.out, HBf.out⟩
  | some y =>
    have hcy := Lib.hid (fun (W : World) (hW : Mor w W) => hc.out W hW y rfl)
    clear hc HA
    go_enter Tryd.func7, Tryd.ntmps7
    go_wp2_with (at_builtin; refine wpList_append_own_spare _ rfl _ _ 22 rfl w.heap.size 3 i0 1 Tryd.underlying22 hi hz1 w.heap.size 0 (n + 3) [] rfl ⟨by simp, .inr ⟨w.heap.size, n + 3, madeCells #[Value.int .i64 0] (n + 3), rfl, Nat.le_refl _, heap_alloc_new w _, Nat.zero_le _, by unfold maxLen; omega, by rw [size_madeCells]; simp, rfl⟩⟩ y n cap (xs.map (Value.int .i64)) rfl (by rw [HL.out]; simp) ?_ ?_ ?_ ?_)
    · exact fun j u hu => hcy.out _ ((Mor.refl _).alloc) j u hu
    · intro u hu; simp at hu; obtain ⟨y, _, rfl⟩ := hu; rfl
    · omega
    · intro w2 hown2 hgrow2
      obtain ⟨cs, hblk, hcl, hct⟩ := own_cs hown2
      have HB2 : Hid (Mor w w2) := Lib.hid (Mor.of_below (((Below.refl _ _).alloc (Nat.le_refl _) _).grown hgrow2 (by simp) (by intro k hk; cases hk; exact Nat.le_refl _)))
      have HC := Lib.hid hblk
      have HCl := Lib.hid hcl
      have HCt := Lib.hid (show cs.take n = xs.map (Value.int .i64) by simpa using hct)
      clear hown2 hgrow2 hblk hcl hct hmk
      have HG := Lib.hid hg
      rw [← hg] at HC
      rw [← hg]
      clear hg
      go_wp2
      go_loopw [13] (fun i wr => ∃ k : Nat, k ≤ 3 ∧ i = .int .i64 k ∧ Hid (Blk wr g 3 (rmy cs n k (.int .i64 x))) ∧ Hid (Mor w wr)) (fun i _ => 3 - (intOf i).toNat)
      case atStart => exact ⟨0, Nat.zero_le _, rfl, Lib.hid (by rw [rmy_zero]; exact HC.out), HB2⟩
      case round =>
        obtain ⟨k, hk, rfl, HBk, HXk⟩ := hrel
        by_cases hlt : k < 3
        · have hki : (k : Int) < 3 := by omega
          have hsz : (rmy cs n k (.int .i64 x)).size = n + 3 := by rw [rmy_size _ _ _ _ (by rw [HCl.out]; omega), HCl.out]
          obtain ⟨r, hr⟩ : ∃ r : Nat, r = n + k := ⟨_, rfl⟩
          have hrn : r < n + 3 := by omega
          have e4 : IntKind.i64.wrap ((n : Int) + (k : Int)) = (r : Int) := by rw [IntKind.wrap_i64]; omega
          have hc : ∃ y', wr.cell? ⟨g, r, none⟩ = some y' := ⟨(rmy cs n k (.int .i64 x))[r]'(by omega), by rw [HBk.out.cell]; exact Array.getElem?_eq_getElem _⟩
          obtain ⟨y', hc⟩ := hc
          have hf : wr.frozen? ⟨g, r, none⟩ = false := HBk.out.frozen r
          have HS := Lib.hid (show (rmy cs n k (.int .i64 x)).setIfInBounds r (.int .i64 x) = rmy cs n (k + 1) (.int .i64 x) by rw [hr]; exact rmy_step cs n k (.int .i64 x) (by rw [HCl.out]; omega))
          have hr1 : (r : Int) < ((n + 3 : Nat) : Int) := by omega
          have hr0 : (0 : Int) ≤ (r : Int) := by omega
          clear hr hsz
          go_wp2
          go_roundw
          case rel => exact ⟨k + 1, hlt, by go_num, Lib.hid (by have := HBk.out.set_ r (.int .i64 x); rw [HS.out] at this; exact this), Lib.hid (Mor.of_below (HXk.out.below.setCell (by rw [HG.out]; exact Nat.le_refl _) _))⟩
          case measure => simp [intOf]; omega
        · obtain rfl : k = 3 := by omega
          have HBf := Lib.hid (show Blk wr g 3 (ic (xs ++ [x, x, x])) by have := HBk.out; rw [rmy_all cs (xs.map (Value.int .i64)) n 3 _ HCl.out HCt.out] at this; simpa [ic] using this)
          have HXf := Lib.hid HXk.out
          rw [HG.out] at HBf
          rw [HG.out]
          go_wp2
          go_ret
          exact ⟨rfl, HXf.out, HBf.out⟩

set_option maxHeartbeats 1600000 in
theorem spoil_int (g n cap : Nat) (xs : List Value) (u : Int) (w : World) (hb : Blk w g 3 xs.toArray) (hl : xs.length = cap) (hn : n ≤ cap) (hm : cap ≤ maxLen) :
    Calls Tryd.prog 21 #[.slice (some ⟨g, 0, none⟩) n cap, .int .i64 u] w (SpoilPost w g 3 cap (.int .i64 u)) := by
  have HB := Lib.hid hb
  have HL := Lib.hid hl
  have hmx : (cap : Int) ≤ 9223372036854775807 := by unfold maxLen at hm; omega
  clear hb hl hm
  go_enter Tryd.func21, Tryd.ntmps21
  go_wp2
  go_loopw [11] (fun i wr => ∃ k : Nat, k ≤ cap ∧ i = .int .i64 k ∧ Hid (Blk wr g 3 (spl xs k (.int .i64 u))) ∧ Hid (Chg g w wr)) (fun i _ => cap - (intOf i).toNat)
  case atStart => exact ⟨0, Nat.zero_le _, rfl, Lib.hid (by rw [spl_zero]; exact HB.out), Lib.hid (Chg.refl _ _)⟩
  case round =>
    obtain ⟨k, hk, rfl, HBk, HXk⟩ := hrel
    by_cases hlt : k < cap
    · have hki : (k : Int) < (cap : Int) := by omega
      have hc : wr.cell? ⟨g, k, none⟩ = some ((spl xs k (.int .i64 u))[k]'(by rw [spl_size _ _ _ (by rw [HL.out]; omega), HL.out]; exact hlt)) := by
        rw [HBk.out.cell]; exact Array.getElem?_eq_getElem _
      have hf : wr.frozen? ⟨g, k, none⟩ = false := HBk.out.frozen k
      have HS := Lib.hid (spl_step xs k (.int .i64 u) (by rw [HL.out]; exact hlt))
      generalize (spl xs k (.int .i64 u))[k]'_ = y at hc
      go_wp2
      go_roundw
      case rel => exact ⟨k + 1, hlt, by go_num, Lib.hid (by have := HBk.out.set_ k (.int .i64 u); rw [HS.out] at this; exact this), Lib.hid HXk.out.set_⟩
      case measure => simp [intOf]; omega
    · obtain rfl : k = cap := by omega
      have HBf := Lib.hid (show Blk wr g 3 (List.replicate k (.int .i64 u)).toArray by have := HBk.out; rw [← HL.out, spl_all, HL.out] at this; exact this)
      go_wp2
      go_returns
      exact ⟨rfl, HXk.out, HBf.out⟩

theorem blk_room {w : World} {g n : Nat} {t : TypeId} {xs : List Int} {x : Int} (h : Blk w g t (ic (xs ++ [x, x, x]))) (hn : xs.length = n) (k : Nat) (hk : k < 3) : w.cell? ⟨g, n + k, none⟩ = some (.int .i64 x) := by
  rw [h.cell]
  simp only [ic, List.map_append, List.getElem?_toArray]
  rw [List.getElem?_append_right (by simp; omega), List.length_map, hn, show n + k - n = k by omega]
  match k, hk with
  | 0, _ => rfl
  | 1, _ => rfl
  | 2, _ => rfl

set_option maxHeartbeats 1600000 in
theorem marked_int (g n : Nat) (xs : List Int) (x : Int) (w : World) (h : Blk w g 3 (ic (xs ++ [x, x, x]))) (hn : xs.length = n) (hl : n ≤ 17592186044416) :
    Calls Tryd.prog 18 #[.slice (some ⟨g, 0, none⟩) n (n + 3), .int .i64 x] w fun e w' => e = .returned (.bool true) ∧ w = w' := by
  have HC := Lib.hid (fun k hk => blk_room h hn k hk)
  have HG := Lib.hid h.lt
  clear h hn
  go_enter Tryd.func18, Tryd.ntmps18
  have e3 : n + 3 - n = 3 := by omega
  go_wp2
  go_loop [14] (fun i => ∃ k : Nat, k ≤ 3 ∧ i = .int .i64 k) (fun i => 3 - (intOf i).toNat)
  case atStart => exact ⟨0, Nat.zero_le _, rfl⟩
  case round =>
    obtain ⟨k, hk, rfl⟩ := hrel
    by_cases hlt : k < 3
    · have c := HC.out k hlt
      have g1 := HG.out
      have hki : (k : Int) < 3 := by omega
      have hk0 : (0 : Int) ≤ (k : Int) := by omega
      go_wp2
      go_round
      case rel => exact ⟨k + 1, hlt, by go_num⟩
      case measure => simp [intOf]; omega
    · obtain rfl : k = 3 := by omega
      go_wp2
      go_returns
      exact ⟨rfl, rfl⟩

end Go.Proofs.YtahegjhjonodlaaDoor

/- talkeep.spoil at api.Row. -/
namespace Go.Proofs.YtahegjhjonodlaaDoor
open Go.ChangeShapes Go.WideShapes Go.ChangeAt Go.RowKit
set_option linter.unusedVariables false
set_option maxRecDepth 100000

theorem grown_set {g i : Nat} {u : Value} {w w' : World} (h : w.grownBy w' (some g)) : w.grownBy (w'.setCell ⟨g, i, none⟩ u) (some g) := by
  obtain ⟨h1, h2, h3, h4, h5⟩ := h
  refine ⟨h1, h2, h3, by simpa [World.setCell] using h4, fun k hk hne => ?_⟩
  rw [Below.heap_setCell _ _ _ _ (fun e => hne (by rw [e]))]
  exact h5 k hk hne
theorem set_size (cs : Array Value) (i : Nat) (u : Value) {m : Nat} (h : cs.size = m) : (cs.setIfInBounds i u).size = m := by rw [Array.size_setIfInBounds]; exact h
theorem blk_off {w : World} {g b i : Nat} {t : TypeId} {cs : Array Value} {u : Value} (h : Blk w b t cs) (hne : g ≠ b) : Blk (w.setCell ⟨g, i, none⟩ u) b t cs := (Below.heap_setCell _ _ _ _ (fun e => hne e.symm)).trans h
theorem blk_some {w : World} {g : Nat} {t : TypeId} {cs : Array Value} (h : Blk w g t cs) (i : Nat) (hi : i < cs.size) : ∃ y, w.cell? ⟨g, i, none⟩ = some y :=
  ⟨cs[i], by rw [h.cell]; exact Array.getElem?_eq_getElem hi⟩

set_option maxHeartbeats 1600000 in
theorem spoil_row (g n cap : Nat) (cs : Array Value) (p q r : Int) (w : World) (hb : Blk w g 42 cs) (hl : cs.size = cap * 3) (hn : n ≤ cap) (hm : cap ≤ maxLen) :
    Calls Tryd.prog 22 #[.slice (some ⟨g, 0, none⟩) n cap, .agg #[.int .i64 p, .int .i64 q, .int .i64 r]] w fun e w' => e = .returned (.tuple #[]) ∧ w.grownBy w' (some g) := by
  have HB := Lib.hid hb
  have HL := Lib.hid hl
  have hmx : (cap : Int) ≤ 9223372036854775807 := by unfold maxLen at hm; omega
  have HX := Lib.hid (Blk.new w 42 #[.int .i64 p, .int .i64 q, .int .i64 r])
  have HG := Lib.hid (World.grownBy_alloc w (.cells #[.int .i64 p, .int .i64 q, .int .i64 r] 42) (some g))
  have HBa := Lib.hid (hb.alloc (.cells #[.int .i64 p, .int .i64 q, .int .i64 r] 42))
  have hgw := hb.lt
  clear hb hl hm
  obtain ⟨bX, hX⟩ : ∃ bX, bX = w.heap.size := ⟨_, rfl⟩
  have hgX : g ≠ bX := by omega
  go_enter Tryd.func22, Tryd.ntmps22
  go_wp2
  generalize w.alloc (.cells #[.int .i64 p, .int .i64 q, .int .i64 r] 42) = w0 at *
  rw [← hX] at HX
  rw [← hX]
  clear hX hgw
  go_loopw [11] (fun i wr => ∃ k : Nat, k ≤ cap ∧ i = .int .i64 k ∧ Hid (∃ ds, Blk wr g 42 ds ∧ ds.size = cap * 3) ∧ Hid (Blk wr bX 42 #[.int .i64 p, .int .i64 q, .int .i64 r]) ∧ Hid (w.grownBy wr (some g))) (fun i _ => cap - (intOf i).toNat)
  case atStart => exact ⟨0, Nat.zero_le _, rfl, Lib.hid ⟨_, HBa.out, HL.out⟩, HX, HG⟩
  case round =>
    obtain ⟨k, hk, rfl, HBk, HXk, HGk⟩ := hrel
    obtain ⟨ds, hds, hsz⟩ := HBk.out
    by_cases hlt : k < cap
    · have hki : (k : Int) < (cap : Int) := by omega
      have hf : ∀ o, wr.frozen? ⟨g, o, none⟩ = false := fun o => hds.frozen o
      have hg : g < wr.heap.size := hds.lt
      have hbx : bX < wr.heap.size := HXk.out.lt
      have x0 : wr.cell? ⟨bX, 0, none⟩ = some (.int .i64 p) := by rw [HXk.out.cell]; rfl
      have x1 : wr.cell? ⟨bX, 1, none⟩ = some (.int .i64 q) := by rw [HXk.out.cell]; rfl
      have x2 : wr.cell? ⟨bX, 2, none⟩ = some (.int .i64 r) := by rw [HXk.out.cell]; rfl
      obtain ⟨y0, c0⟩ := blk_some hds (k * 3) (by omega)
      obtain ⟨y1, c1⟩ := blk_some hds (k * 3 + 1) (by omega)
      obtain ⟨y2, c2⟩ := blk_some hds (k * 3 + 2) (by omega)
      clear HBk
      have HDs := Lib.hid hds
      have HSz := Lib.hid hsz
      clear hds hsz
      go_wp2
      go_roundw
      case rel => exact ⟨k + 1, hlt, by go_num, Lib.hid ⟨_, ((HDs.out.set_ _ _).set_ _ _).set_ _ _, set_size _ _ _ (set_size _ _ _ (set_size _ _ _ HSz.out))⟩, Lib.hid (blk_off (blk_off (blk_off HXk.out hgX) hgX) hgX), Lib.hid (grown_set (grown_set (grown_set HGk.out)))⟩
      case measure => simp [intOf]; omega
    · obtain rfl : k = cap := by omega
      clear hds hsz
      go_wp2
      go_returns
      exact ⟨rfl, HGk.out⟩

end Go.Proofs.YtahegjhjonodlaaDoor

/- slices.Clone and slices.Equal at []api.Row. -/
namespace Go.Proofs.YtahegjhjonodlaaDoor
open Go.ChangeShapes Go.WideShapes Go.ChangeAt Go.RowKit
set_option linter.unusedVariables false
set_option maxRecDepth 100000

/-- the number in a cell -/
def rv (cs : List Value) (j : Nat) : Int := intOf (cs.getD j (.int .i64 0))
theorem rd_at {w : World} {x : Addr} {cs : List Value} (h : Rd w (some x) cs) (j : Nat) (u : Value) (hu : cs[j]? = some u) : w.cell? (x.add j) = some u := by
  have hj : j < cs.length := (List.getElem?_eq_some_iff.1 hu).1
  rcases h with rfl | ⟨b, o, e, hb, hc⟩
  · simp at hj
  · injection e with e
    subst e
    rw [add_mk, hc j hj, List.getD_eq_getElem?_getD, hu]; rfl
/-- the three cells of a row -/
theorem rd_row {w : World} {A : Option Addr} {cs : List Value} {n : Nat} (h : Rd w A cs) (hn : cs.length = n * 3) (hi : ∀ u ∈ cs, ∃ k, u = .int .i64 k) (k : Nat) (hk : k < n) :
    ∃ b o, A = some ⟨b, o, none⟩ ∧ b < w.heap.size ∧ w.cell? ⟨b, o + k * 3, none⟩ = some (.int .i64 (rv cs (k * 3))) ∧ w.cell? ⟨b, o + k * 3 + 1, none⟩ = some (.int .i64 (rv cs (k * 3 + 1))) ∧ w.cell? ⟨b, o + k * 3 + 2, none⟩ = some (.int .i64 (rv cs (k * 3 + 2))) := by
  have hg : ∀ j, j < cs.length → cs.getD j (.int .i64 0) = .int .i64 (rv cs j) := fun j hj => by
    have hm : cs[j] ∈ cs := List.getElem_mem hj
    obtain ⟨q, hq⟩ := hi _ hm
    unfold rv
    rw [List.getD_eq_getElem?_getD, List.getElem?_eq_getElem hj, Option.getD_some, hq]; rfl
  rcases h with rfl | ⟨b, o, e, hb, hc⟩
  · simp at hn; omega
  · refine ⟨b, o, e, hb, ?_, ?_, ?_⟩
    · rw [hc _ (by omega), hg _ (by omega)]
    · rw [Nat.add_assoc, hc _ (by omega), hg _ (by omega)]
    · rw [Nat.add_assoc, hc _ (by omega), hg _ (by omega)]

/-- rows that the call made -/
def MadeRw (w : World) (n : Nat) (cs : List Value) (e : Ending) (w' : World) : Prop :=
  ∃ v, e = .returned v ∧ w'.ownsRow w.heap.size 42 3 v n cs ∧ Mor w w'

set_option maxHeartbeats 1600000 in
theorem clone_rows (A : Option Addr) (n cap : Nat) (cs : List Value) (w : World) (hr : Rd w A cs) (hn : cs.length = n * 3) (h1 : ∀ u ∈ cs, u.oneCell' = true) (h0 : A = none → n = 0) (hl : n ≤ 1000000) :
    Calls Tryd.prog 20 #[.slice A n cap] w (MadeRw w n cs) := by
  obtain ⟨i0, hi, hz0, hz1, hz2⟩ := info_parts info_row
  cases A with
  | none =>
    obtain rfl := h0 rfl
    have hx : cs = [] := List.eq_nil_of_length_eq_zero (by rw [hn])
    subst hx
    clear hr hn h0
    go_enter Tryd.func20, Tryd.ntmps20
    go_wp2
    go_ret
    exact ⟨_, rfl, World.ownsRow_nil _ _ _ _, Mor.refl _⟩
  | some x =>
    have HC := Lib.hid (fun (W : World) (hW : Mor w W) j u (hu : cs[j]? = some u) => show W.cell? (x.add j) = some u from rd_at (hr.mor hW) j u hu)
    have HL := Lib.hid hn
    have H1 := Lib.hid h1
    clear hr hn h0 h1
    go_enter Tryd.func20, Tryd.ntmps20
    go_wp2_with (at_builtin; refine wpList_append_own _ rfl _ _ 34 rfl w.heap.size 42 i0 (.agg #[.int .i64 0, .int .i64 0, .int .i64 0]) 3 24 Tryd.underlying34 hi hz0 hz1 hz2 rfl (by decide) _ 0 [] rfl ⟨by simp, .inr ⟨w.heap.size, 0, #[], rfl, Nat.le_refl _, heap_alloc_new w _, Nat.le_refl _, by unfold maxLen; omega, rfl, rfl⟩⟩ x n cap cs rfl (by rw [HL.out]) ?_ ?_ ?_ ?_ ?_ ?_)
    case refine_6 =>
      intro v' w1 hown hgrow _
      have HO := Lib.hid hown
      have HB : Hid (Below w.heap.size w w1) := Lib.hid (((Below.refl _ _).alloc (Nat.le_refl _) _).grown hgrow (by simp) (by intro k hk; simp [Value.ownBlock] at hk; omega))
      clear hown hgrow
      go_wp2
      go_ret
      exact ⟨v', rfl, by simpa using HO.out, Mor.of_below HB.out⟩
    all_goals try (first | (exact fun j u hu => HC.out _ ((Mor.refl _).alloc) j u hu) | (exact H1.out) | (unfold maxLen; omega) | omega | simp)

set_option maxHeartbeats 1600000 in
theorem equal_rows (A B : Option Addr) (n cap cap' : Nat) (cs : List Value) (w : World) (hr : Rd w A cs) (hs : Rd w B cs) (hn : cs.length = n * 3) (hi : ∀ u ∈ cs, ∃ k, u = .int .i64 k) (hl : n ≤ 1000) :
    Calls Tryd.prog 23 #[.slice A n cap, .slice B n cap'] w fun e w' => e = .returned (.bool true) ∧ Mor w w' := by
  have HR := Lib.hid hr
  have HS := Lib.hid hs
  have HN := Lib.hid hn
  have HI := Lib.hid hi
  clear hr hs hn hi
  go_enter Tryd.func23, Tryd.ntmps23
  go_wp2
  go_loopw [13] (fun i wr => ∃ k : Nat, k ≤ n ∧ i = .int .i64 k ∧ Hid (Mor w wr)) (fun i _ => n - (intOf i).toNat)
  case atStart => exact ⟨0, Nat.zero_le _, rfl, Lib.hid (Mor.refl _)⟩
  case round =>
    obtain ⟨k, hk, rfl, HM⟩ := hrel
    by_cases hlt : k < n
    · have hki : (k : Int) < (n : Int) := by omega
      have hk0 : (0 : Int) ≤ (k : Int) := by omega
      obtain ⟨b1, o1, hA, hxb, c1, c2, c3⟩ := rd_row (HR.out.mor HM.out) HN.out HI.out k hlt
      obtain ⟨b2, o2, hB, hyb, d1, d2, d3⟩ := rd_row (HS.out.mor HM.out) HN.out HI.out k hlt
      subst hA hB
      generalize rv cs (k * 3) = u at *
      generalize rv cs (k * 3 + 1) = v at *
      generalize rv cs (k * 3 + 2) = z at *
      go_wp2
      go_quiet (fail)
      go_wp2
      go_roundw
      case rel => exact ⟨k + 1, by omega, by go_num, Lib.hid (by repeat (first | exact HM.out | apply Mor.alloc | apply Mor.more | apply Mor.drewN | apply Mor.drew))⟩
      case measure => simp [intOf]; omega
    · obtain rfl : k = n := by omega
      go_wp2
      go_ret
      exact ⟨rfl, HM.out⟩

end Go.Proofs.YtahegjhjonodlaaDoor

/- Rows of rows: the nine slices of NumbersOwn, and spoiling one of them. -/
namespace Go.Proofs.YtahegjhjonodlaaDoor
open Go.ChangeShapes Go.WideShapes Go.ChangeAt Go.RowKit
set_option linter.unusedVariables false
set_option maxRecDepth 100000

/-- a slice of integers -/
structure Sl where
  A : Option Addr
  n : Nat
  c : Nat
  xs : List Int
def Sl.v (s : Sl) : Value := .slice s.A s.n s.c
def sg (L : List Sl) (k : Nat) : Sl := L.getD k ⟨none, 0, 0, []⟩
/-- it is a row of one's own, at B or behind -/
def OwnSl (w : World) (B : Nat) (s : Sl) : Prop := w.ownsRow B 3 1 s.v s.n (s.xs.map (Value.int .i64))

set_option maxHeartbeats 1600000 in
theorem spoil_nil (u : Int) (w : World) : Calls Tryd.prog 21 #[.slice none 0 0, .int .i64 u] w fun e w' => e = .returned (.tuple #[]) ∧ w = w' := by
  go_enter Tryd.func21, Tryd.ntmps21
  go_wp2
  refine wp_loop_rounds 1 ?_
  repeat (
    rw [rounds_succ]
    go_wp2_with fail)
  go_returns
  exact ⟨rfl, rfl⟩
/-- a slice of one's own is spoilt: nothing else is changed -/
theorem spoil_own (u : Int) (B : Nat) (s : Sl) (w : World) (h : OwnSl w B s) :
    Calls Tryd.prog 21 #[s.v, .int .i64 u] w fun e w' => e = .returned (.tuple #[]) ∧ w.grownBy w' s.v.ownBlock := by
  obtain ⟨A, n, c, xs⟩ := s
  obtain ⟨hl, ⟨hv, hn⟩ | ⟨g, cap, cur, hv, hg, hh, h1, h2, h3, h4⟩⟩ := h
  · rw [hv]
    refine (spoil_nil u w).mono ?_
    rintro e w' ⟨rfl, rfl⟩
    exact ⟨rfl, rfl, rfl, rfl, Nat.le_refl _, fun _ _ _ => rfl⟩
  · rw [hv]
    refine (spoil_int g n cap cur.toList u w (by exact hh) (by simpa using h3) h1 h2).mono ?_
    rintro e w' ⟨rfl, hc, _⟩
    exact ⟨rfl, hc.1⟩

end Go.Proofs.YtahegjhjonodlaaDoor
