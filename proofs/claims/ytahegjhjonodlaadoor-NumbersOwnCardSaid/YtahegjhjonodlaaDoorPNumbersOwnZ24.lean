/- What the functions of NumbersOwn hand back: a row of the call's own, whatever the input. -/
import Derived.Test.YtahegjhjonodlaaDoorPNumbersOwnZ1
import Derived.Test.YtahegjhjonodlaaDoorPNumbersOwnZ2
import Derived.Test.YtahegjhjonodlaaDoorPNumbersOwnZ3
import Derived.Test.YtahegjhjonodlaaDoorPNumbersOwnZ4
import Derived.Test.YtahegjhjonodlaaDoorPNumbersOwnZ5
import Derived.Test.YtahegjhjonodlaaDoorPNumbersOwnZ6
import Derived.Test.YtahegjhjonodlaaDoorPNumbersOwnZ7
import Derived.Test.YtahegjhjonodlaaDoorPNumbersOwnZ8
import Derived.Test.YtahegjhjonodlaaDoorPNumbersOwnZ9
import Derived.Test.YtahegjhjonodlaaDoorPNumbersOwnZ10
import Derived.Test.YtahegjhjonodlaaDoorPNumbersOwnZ11
import Derived.Test.YtahegjhjonodlaaDoorPNumbersOwnZ12
import Derived.Test.YtahegjhjonodlaaDoorPNumbersOwnZ13
import Derived.Test.YtahegjhjonodlaaDoorPNumbersOwnZ14
import Derived.Test.YtahegjhjonodlaaDoorPNumbersOwnZ15
import Derived.Test.YtahegjhjonodlaaDoorPNumbersOwnZ16
import Derived.Test.YtahegjhjonodlaaDoorPNumbersOwnZ17
import Derived.Test.YtahegjhjonodlaaDoorPNumbersOwnZ18
import Derived.Test.YtahegjhjonodlaaDoorPNumbersOwnZ19
import Derived.Test.YtahegjhjonodlaaDoorPNumbersOwnZ20
import Derived.Test.YtahegjhjonodlaaDoorPNumbersOwnZ21
import Derived.Test.YtahegjhjonodlaaDoorPNumbersOwnZ22
import Derived.Test.YtahegjhjonodlaaDoorPNumbersOwnZ23
import Derived.Test.YtahegjhjonodlaaDoorRows
import Derived.BigQuiet
import Derived.DataElems
import Derived.Deep.DeepCutAuto
import Derived.Deep.LoopGhost
import Derived.Deep.OwnRows
import Derived.Deep.QuietTactic
import Derived.Deep.RegionLaw
import Derived.Deep.RegionWith
import Derived.Deep.SlicePairs
import Derived.Deep.Slices
import Derived.Deep.Strs
import Derived.Handy
import Derived.Laws.AppendOwn
import Derived.Laws.Cover1
import Derived.Lib.Bytealg
import Derived.Lib.Hide
import Derived.Lib.LaidTab
import Derived.Lib.SliceRun
import Derived.Lib.Walk
import Derived.OpenShut
import Derived.Outline
import Derived.OwnWalk
import Derived.PlainAid
import Derived.ProofKit
import Derived.RegionTactic
import Derived.Shelf.Abstract
import Derived.Sort.Walk0
import Derived.WalkKit
import Derived.WalkSpells
namespace Go.Proofs.YtahegjhjonodlaaDoor
open Go.ChangeShapes Go.WideShapes Go.ChangeAt Go.RowKit
set_option linter.unusedVariables false
set_option maxRecDepth 100000

/-- a row of integers that the call made, and a code -/
def NewI (w : World) (e : Ending) (w' : World) : Prop :=
  ∃ (v : Value) (r : Int) (n : Nat) (xs : List Int), e = .returned (.tuple #[v, .int .i64 r]) ∧ w'.ownsRow w.heap.size 3 1 v n (xs.map (Value.int .i64)) ∧ n ≤ 1000000 ∧ Mor w w'
theorem new_nil {w w' : World} (r : Int) (h : Mor w w') : NewI w (.returned (.tuple #[.slice none 0 0, .int .i64 r])) w' :=
  ⟨_, r, 0, [], rfl, World.ownsRow_nil _ _ _ _, by omega, h⟩
theorem new_cells {w w' : World} {g n : Nat} {cs : Array Value} {xs : List Int} (r : Int) (hg : w.heap.size ≤ g) (hb : Blk w' g 3 cs) (hc : cs = ic xs) (hn : xs.length = n) (hl : n ≤ 1000000) (h : Mor w w') :
    NewI w (.returned (.tuple #[.slice (some ⟨g, 0, none⟩) n n, .int .i64 r])) w' := by
  subst hc
  exact ⟨_, r, n, xs, rfl, ⟨by simp [hn], .inr ⟨g, n, ic xs, rfl, hg, hb, Nat.le_refl _, by unfold maxLen; omega, by simp [ic, hn], by rw [Nat.mul_one]; simp only [ic]; exact List.take_of_length_le (by simp [hn])⟩⟩, hl, h⟩
theorem new_row {w w' : World} {v : Value} {n : Nat} {xs : List Int} (r : Int) (h : w'.ownsRow w.heap.size 3 1 v n (xs.map (Value.int .i64))) (hl : n ≤ 1000000) (hm : Mor w w') : NewI w (.returned (.tuple #[v, .int .i64 r])) w' :=
  ⟨v, r, n, xs, rfl, h, hl, hm⟩
theorem fc_ic (f : Nat → Int) (m : Nat) : fc f m m = ic ((List.range m).map f) := by
  apply Array.ext_getElem?
  intro i
  by_cases h : i < m
  · rw [fc_get _ _ _ _ h, if_pos h]; simp [ic, h]
  · rw [Array.getElem?_eq_none (by rw [fc_size]; omega), Array.getElem?_eq_none (by simp [ic]; omega)]
theorem evc_ic (s a n : Int) (m : Nat) : evc s a n m m = ic (evl s a n m) := by
  apply Array.ext_getElem?
  intro i
  by_cases h : i < m
  · rw [evc_get _ _ _ _ _ _ h, if_pos h]; simp [ic, evl, h]
  · rw [Array.getElem?_eq_none (by rw [evc_size]; omega), Array.getElem?_eq_none (by simp [ic, evl]; omega)]
theorem byl_len' (A : Int) (l : List Int) : (byl A l).length = l.length := by
  unfold byl prts; split <;> simp

set_option maxHeartbeats 1600000 in
theorem straight_b2 (cost rest : Int) (n : Nat) (w : World) (h1 : 0 ≤ cost) (h2 : cost ≤ 1000000000000) (h3 : 0 ≤ rest) (h4 : rest ≤ cost) (h5 : 1 ≤ n) (h6 : n ≤ 40) :
    Calls Tryd.prog 12 #[.int .i64 cost, .int .i64 rest, .int .i64 (n : Int)] w fun e w' => ∃ b, e = .returned (.tuple #[.slice (some ⟨b, 0, none⟩) n n, .int .i64 0]) ∧ w.heap.size ≤ b ∧ Blk w' b 3 (fc (stP (cost - rest) n) n n) ∧ Mor w w' := by
  have HL := Lib.hid (fun w => lineLook_ok cost rest n w h1 h2 h3 h4 (by omega) (by omega))
  go_enter Tryd.func12, Tryd.ntmps12
  go_wp2_with (first | (go_at_call 55; (with_reducible refine (HL.out _).mono ?_); rintro e w1 ⟨rfl, rfl⟩))
  refine (parts_straight cost rest n _ _ _ _ (by simp [go_sem]) (by simp [go_sem]) (by simp [go_sem]) (by simp [go_sem]) (by simp [go_sem]) (by simp [go_sem]) h1 h2 h3 h4 h5 h6).mono ?_
  rintro e w1 ⟨rfl, k, rfl⟩
  have R := Lib.hid (fun (w : World) k => (Blk.new w 3 (fc (stP (cost - rest) n) n n)).drewN k)
  go_wp2
  go_returns
  refine ⟨_, rfl, by first | exact Nat.le_refl _ | (simp; omega) | omega, ?_, by repeat (first | exact Mor.refl _ | apply Mor.alloc | apply Mor.more | apply Mor.drewN | apply Mor.drew)⟩
  have r := R.out (((w.alloc (.cells #[.int .i64 cost] 3)).alloc (.cells #[.int .i64 rest] 3)).alloc (.cells #[.int .i64 (n : Int)] 3)) k
  simp [go_sem] at r
  exact r
set_option maxHeartbeats 1600000 in
theorem digits_b2 (cost rest : Int) (n : Nat) (w : World) (h1 : 0 ≤ cost) (h2 : cost ≤ 1000000000000) (h3 : 0 ≤ rest) (h4 : rest ≤ cost) (h5 : 1 ≤ n) (h6 : n ≤ 40) :
    Calls Tryd.prog 13 #[.int .i64 cost, .int .i64 rest, .int .i64 (n : Int)] w fun e w' => ∃ b, e = .returned (.tuple #[.slice (some ⟨b, 0, none⟩) n n, .int .i64 0]) ∧ w.heap.size ≤ b ∧ Blk w' b 3 (fc (dgP (cost - rest) n) n n) ∧ Mor w w' := by
  obtain ⟨q1, q2⟩ := prod_bd (n : Int) ((n : Int) + 1) 40 41 (by omega) (by omega) (by omega) (by omega) (by omega)
  have q3 : 0 ≤ (n : Int) * ((n : Int) + 1) := Int.mul_nonneg (by omega) (by omega)
  have HL := Lib.hid (fun w => lineLook_ok cost rest n w h1 h2 h3 h4 (by omega) (by omega))
  go_enter Tryd.func13, Tryd.ntmps13
  go_wp2_with (first | (go_at_call 55; (with_reducible refine (HL.out _).mono ?_); rintro e w1 ⟨rfl, rfl⟩))
  refine (parts_digits cost rest n _ _ _ _ _ (by simp [go_sem]) (by simp [go_sem]) (by simp [go_sem]) (by simp [go_sem]) (by simp [go_sem]) (by simp [go_sem]) (by simp [go_sem]) (by simp [go_sem]) h1 h2 h3 h4 h5 h6).mono ?_
  rintro e w1 ⟨rfl, k, rfl⟩
  have R := Lib.hid (fun (w : World) k => (Blk.new w 3 (fc (dgP (cost - rest) n) n n)).drewN k)
  go_wp2
  go_returns
  refine ⟨_, rfl, by first | exact Nat.le_refl _ | (simp; omega) | omega, ?_, by repeat (first | exact Mor.refl _ | apply Mor.alloc | apply Mor.more | apply Mor.drewN | apply Mor.drew)⟩
  have r := R.out ((((w.alloc (.cells #[.int .i64 cost] 3)).alloc (.cells #[.int .i64 rest] 3)).alloc (.cells #[.int .i64 (n : Int)] 3)).alloc (.cells #[.int .i64 ((n : Int) * (n + 1) / 2)] 3)) k
  simp [go_sem] at r
  exact r

theorem straight_new (cost rest n : Int) (w : World) : Calls Tryd.prog 12 #[.int .i64 cost, .int .i64 rest, .int .i64 n] w (NewI w) := by
  by_cases h : lineP cost rest n
  · obtain ⟨h1, h2, h3, h4, h5, h6⟩ := h
    obtain ⟨m, rfl⟩ : ∃ m : Nat, n = m := ⟨n.toNat, by omega⟩
    refine (straight_b2 cost rest m w h1 h2 h3 h4 (by omega) (by omega)).mono ?_
    rintro e w' ⟨b, rfl, hb, hx, hm⟩
    exact new_cells 0 hb hx (fc_ic _ _) (by simp) (by omega) hm
  · refine (straight_no cost rest n w h).mono ?_
    rintro e w' ⟨rfl, hm⟩
    exact new_nil _ hm
theorem digits_new (cost rest n : Int) (w : World) : Calls Tryd.prog 13 #[.int .i64 cost, .int .i64 rest, .int .i64 n] w (NewI w) := by
  by_cases h : lineP cost rest n
  · obtain ⟨h1, h2, h3, h4, h5, h6⟩ := h
    obtain ⟨m, rfl⟩ : ∃ m : Nat, n = m := ⟨n.toNat, by omega⟩
    refine (digits_b2 cost rest m w h1 h2 h3 h4 (by omega) (by omega)).mono ?_
    rintro e w' ⟨b, rfl, hb, hx, hm⟩
    exact new_cells 0 hb hx (fc_ic _ _) (by simp) (by omega) hm
  · refine (digits_no cost rest n w h).mono ?_
    rintro e w' ⟨rfl, hm⟩
    exact new_nil _ hm

theorem by_new (a : Int) (A : Option Addr) (n cap : Nat) (l : List Int) (w : World) (hr : Ri w A l) (hn : l.length = n) (hl : n ≤ maxLen) :
    Calls Tryd.prog 5 #[.int .i64 a, .slice A n cap] w (NewI w) := by
  by_cases hc : byc a l = 0
  · have h40 : l.length ≤ 40 := (swc_zero (byc_zero hc).1).1
    refine (by_any2 a A n cap l w hr hn hc).mono ?_
    rintro e w' ⟨g, rfl, hm, hg, hb⟩
    exact new_cells 0 hg hb rfl (byl_len' a l) (by omega) hm
  · refine (by_no a A n cap l w hr hn hl hc).mono ?_
    rintro e w' ⟨rfl, hm⟩
    exact new_nil _ hm
theorem even_new (a n : Int) (w : World) : Calls Tryd.prog 8 #[.int .i64 a, .int .i64 n] w (NewI w) := by
  by_cases h : -1000000000000 ≤ a ∧ a ≤ 1000000000000 ∧ 1 ≤ n ∧ n ≤ 40
  · obtain ⟨h1, h2, h3, h4⟩ := h
    obtain ⟨m, rfl⟩ : ∃ m : Nat, n = m := ⟨n.toNat, by omega⟩
    by_cases h0 : 0 ≤ a
    · refine (even_pos a m w h0 h2 (by omega) (by omega)).mono ?_
      rintro e w' ⟨rfl, k, rfl⟩
      exact new_cells 0 (Nat.le_refl _) ((Blk.new w 3 _).drewN k) (evc_ic _ _ _ _) (evl_len _ _ _ _) (by omega) ((Mor.refl w).alloc.drewN)
    · have := even_neg (-a) m w (by omega) (by omega) (by omega) (by omega)
      rw [Int.neg_neg] at this
      refine this.mono ?_
      rintro e w' ⟨rfl, k, rfl⟩
      exact new_cells 0 (Nat.le_refl _) ((Blk.new w 3 _).drewN k) (evc_ic _ _ _ _) (evl_len _ _ _ _) (by omega) ((Mor.refl w).alloc.drewN)
  · refine (even_no a n w h).mono ?_
    rintro e w' ⟨rfl, rfl⟩
    exact new_nil _ (Mor.refl _)
theorem deal_new (way n : Int) (A : Option Addr) (m cap : Nat) (vs : List Int) (w : World) (hr : Ri w A vs) (hm : vs.length = m) :
    Calls Tryd.prog 9 #[.int .i64 way, .int .i64 n, .slice A m cap] w (NewI w) := by
  by_cases hc : dcode way n vs = 0
  · unfold dcode at hc
    split at hc
    · omega
    · obtain ⟨c1, c2, c3, c4, c5⟩ := lcode_zero hc
      obtain ⟨k, rfl⟩ : ∃ k : Nat, n = k := ⟨n.toNat, by omega⟩
      refine (deal_ok2 way k A m cap vs w (by omega) (by omega) hr hm hc).mono ?_
      rintro e w' ⟨xs, rfl, hb, hi, hx⟩
      exact new_cells 0 (Nat.le_refl _) hx rfl hi.1 (by omega) (Mor.of_below hb)
  · refine (deal_no way n A m cap vs w hr hm hc).mono ?_
    rintro e w' ⟨rfl, rfl⟩
    exact new_nil _ (Mor.refl _)
theorem quotas_new (n : Int) (A : Option Addr) (m cap : Nat) (vs : List Int) (w : World) (hr : Ri w A vs) (hm : vs.length = m) :
    Calls Tryd.prog 11 #[.int .i64 n, .slice A m cap] w (NewI w) := by
  by_cases hc : lcode n vs = 0
  · obtain ⟨c1, c2, c3, c4, c5⟩ := lcode_zero hc
    refine (quotas_ok2 n A m cap vs w hr hm hc).mono ?_
    rintro e w' ⟨rfl, hb, hx⟩
    exact new_cells 0 (Nat.le_refl _) hx rfl (quo_len _ _ _) (by omega) (Mor.of_below hb)
  · refine (quotas_no n A m cap vs w hr hm hc).mono ?_
    rintro e w' ⟨rfl, rfl⟩
    exact new_nil _ (Mor.refl _)
theorem falling_new (cost rest rate n : Int) (w : World) : Calls Tryd.prog 14 #[.int .i64 cost, .int .i64 rest, .int .i64 rate, .int .i64 n] w (NewI w) := by
  by_cases h : lookF cost rest n ∧ 0 ≤ rate ∧ rate ≤ 1000000
  · obtain ⟨⟨h1, h2, h3, h4, h5, h6⟩, h7, h8⟩ := h
    obtain ⟨m, rfl⟩ : ∃ m : Nat, n = m := ⟨n.toNat, by omega⟩
    refine (falling_ok2 cost rest rate m w h1 h2 h3 h4 h7 h8 (by omega) (by omega)).mono ?_
    rintro e w' ⟨v, rfl, hv, hb⟩
    exact new_row 0 hv (by omega) (Mor.of_below hb)
  · refine (falling_no cost rest rate n w h).mono ?_
    rintro e w' ⟨rfl, rfl⟩
    exact new_nil _ (Mor.refl _)
theorem units_new (cost rest total : Int) (A : Option Addr) (n cap : Nat) (us : List Int) (w : World) (hr : Ri w A us) (hn : us.length = n) :
    Calls Tryd.prog 15 #[.int .i64 cost, .int .i64 rest, .int .i64 total, .slice A n cap] w (NewI w) := by
  refine (units_any cost rest total A n cap us w hr hn).mono ?_
  rintro e w' (⟨h, A', c, rfl, hv, hm⟩ | ⟨_, r, _, rfl, hm⟩)
  · exact new_row 0 hv (by have := h.2.2.2.1; omega) hm
  · exact new_nil _ hm
theorem months_new (a f t : Int) (n : Nat) (w : World) (h0 : 0 ≤ f) (h9 : t ≤ 292193) (h : f ≤ t) (hn : dk f + n = dk t + 1) (ht : Tab w) :
    Calls Tryd.prog 16 #[.int .i64 a, .int .i64 f, .int .i64 t] w (NewI w) := by
  by_cases hb : a < -1000000000000 ∨ 1000000000000 < a
  · refine (emonths_no a f t w hb).mono ?_
    rintro e w' ⟨rfl, k, rfl⟩
    exact new_nil _ (Mor.refl w).drewN
  · refine (emonths_any a f t n w (by omega) (by omega) h0 h9 h hn ht).mono ?_
    rintro e w' (⟨hl, v, rfl, hv, hm⟩ | ⟨_, rfl, hm⟩)
    · exact new_row 0 hv (by omega) hm
    · exact new_nil _ hm

end Go.Proofs.YtahegjhjonodlaaDoor
