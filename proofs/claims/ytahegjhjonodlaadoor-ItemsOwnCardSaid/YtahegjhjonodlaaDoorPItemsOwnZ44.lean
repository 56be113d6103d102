/- What the functions of ItemsOwn hand back: slices in blocks that the call made, whatever the input. -/
import Derived.Test.YtahegjhjonodlaaDoorPItemsOwnZ1
import Derived.Test.YtahegjhjonodlaaDoorPItemsOwnZ2
import Derived.Test.YtahegjhjonodlaaDoorPItemsOwnZ3
import Derived.Test.YtahegjhjonodlaaDoorPItemsOwnZ4
import Derived.Test.YtahegjhjonodlaaDoorPItemsOwnZ5
import Derived.Test.YtahegjhjonodlaaDoorPItemsOwnZ6
import Derived.Test.YtahegjhjonodlaaDoorPItemsOwnZ7
import Derived.Test.YtahegjhjonodlaaDoorPItemsOwnZ8
import Derived.Test.YtahegjhjonodlaaDoorPItemsOwnZ9
import Derived.Test.YtahegjhjonodlaaDoorPItemsOwnZ10
import Derived.Test.YtahegjhjonodlaaDoorPItemsOwnZ11
import Derived.Test.YtahegjhjonodlaaDoorPItemsOwnZ12
import Derived.Test.YtahegjhjonodlaaDoorPItemsOwnZ13
import Derived.Test.YtahegjhjonodlaaDoorPItemsOwnZ14
import Derived.Test.YtahegjhjonodlaaDoorPItemsOwnZ15
import Derived.Test.YtahegjhjonodlaaDoorPItemsOwnZ16
import Derived.Test.YtahegjhjonodlaaDoorPItemsOwnZ17
import Derived.Test.YtahegjhjonodlaaDoorPItemsOwnZ18
import Derived.Test.YtahegjhjonodlaaDoorPItemsOwnZ19
import Derived.Test.YtahegjhjonodlaaDoorPItemsOwnZ20
import Derived.Test.YtahegjhjonodlaaDoorPItemsOwnZ21
import Derived.Test.YtahegjhjonodlaaDoorPItemsOwnZ22
import Derived.Test.YtahegjhjonodlaaDoorPItemsOwnZ23
import Derived.Test.YtahegjhjonodlaaDoorPItemsOwnZ24
import Derived.Test.YtahegjhjonodlaaDoorPItemsOwnZ25
import Derived.Test.YtahegjhjonodlaaDoorPItemsOwnZ26
import Derived.Test.YtahegjhjonodlaaDoorPItemsOwnZ27
import Derived.Test.YtahegjhjonodlaaDoorPItemsOwnZ28
import Derived.Test.YtahegjhjonodlaaDoorPItemsOwnZ29
import Derived.Test.YtahegjhjonodlaaDoorPItemsOwnZ30
import Derived.Test.YtahegjhjonodlaaDoorPItemsOwnZ31
import Derived.Test.YtahegjhjonodlaaDoorPItemsOwnZ32
import Derived.Test.YtahegjhjonodlaaDoorPItemsOwnZ33
import Derived.Test.YtahegjhjonodlaaDoorPItemsOwnZ34
import Derived.Test.YtahegjhjonodlaaDoorPItemsOwnZ35
import Derived.Test.YtahegjhjonodlaaDoorPItemsOwnZ36
import Derived.Test.YtahegjhjonodlaaDoorPItemsOwnZ37
import Derived.Test.YtahegjhjonodlaaDoorPItemsOwnZ38
import Derived.Test.YtahegjhjonodlaaDoorPItemsOwnZ39
import Derived.Test.YtahegjhjonodlaaDoorPItemsOwnZ40
import Derived.Test.YtahegjhjonodlaaDoorPItemsOwnZ41
import Derived.Test.YtahegjhjonodlaaDoorPItemsOwnZ42
import Derived.Test.YtahegjhjonodlaaDoorPItemsOwnZ43
import Derived.Test.YtahegjhjonodlaaDoorRows
import Derived.ArgAppend
import Derived.BigQuiet
import Derived.BigRegion
import Derived.DataElems
import Derived.Deep.AppendSrc
import Derived.Deep.DeepAppendRoom
import Derived.Deep.DeepCutAuto
import Derived.Deep.LoopGhost
import Derived.Deep.OwnRows
import Derived.Deep.QuietTactic
import Derived.Deep.RegionHeld3
import Derived.Deep.RegionLaw
import Derived.Deep.RegionWith
import Derived.Deep.SlicePairs
import Derived.Deep.Slices
import Derived.Deep.Strs
import Derived.Handy
import Derived.Laws.AppendOwn
import Derived.Laws.Bits64b
import Derived.Laws.BytesArg
import Derived.Laws.CopyOwn
import Derived.Laws.Cover1
import Derived.Laws.IdiomCopy
import Derived.Laws.StandIn
import Derived.Lib.Bytealg
import Derived.Lib.Hide
import Derived.Lib.LaidTab
import Derived.Lib.SliceRun
import Derived.Lib.Walk
import Derived.OpenShut
import Derived.Outline
import Derived.OwnWalk
import Derived.PlainAid
import Derived.ProofKit
import Derived.RegionTactic
import Derived.Shelf.Abstract
import Derived.Sort.Walk0
import Derived.WalkKit
import Derived.WalkSpells
namespace Go.Proofs.YtahegjhjonodlaaDoor
open Go.ChangeShapes Go.WideShapes Go.ChangeAt Go.RowKit Stb
set_option linter.unusedVariables false
set_option maxRecDepth 100000

/-- the slice's block was made at B or behind -/
def Nw (B : Nat) (A : Option Addr) (n : Nat) : Prop := (A = none → n = 0) ∧ (∀ x, A = some x → B ≤ x.block) ∧ n ≤ 1000000
theorem Nw.nil (B : Nat) : Nw B none 0 := ⟨fun _ => rfl, fun _ h => (by cases h), by omega⟩
theorem Nw.mono {B B' n : Nat} {A : Option Addr} (h : Nw B A n) (hb : B' ≤ B) : Nw B' A n := ⟨h.1, fun x hx => Nat.le_trans hb (h.2.1 x hx), h.2.2⟩
theorem Nw.own {w : World} {B s n c : Nat} {T : TypeId} {A : Option Addr} {vs : List Value} (h : w.ownsRow B T s (.slice A n c) n vs) (hn : n ≤ 1000000) : Nw B A n := by
  obtain ⟨hl, ⟨hv, h0⟩ | ⟨g, cap, cur, hv, hg, hh, h1, h2, h3, h4⟩⟩ := h
  · cases hv; exact ⟨fun _ => rfl, fun _ h => (by cases h), by omega⟩
  · cases hv; exact ⟨fun h => (by cases h), fun x h => (by injection h with h; subst h; exact hg), hn⟩
theorem Nw.at_ {B g n : Nat} (hg : B ≤ g) (hn : n ≤ 1000000) : Nw B (some ⟨g, 0, none⟩) n := ⟨fun h => (by cases h), fun x h => (by injection h with h; subst h; exact hg), hn⟩
theorem dueK_two (p : Pln) (day : Int) (k : Nat) : ∀ e ∈ dueK p day k, e.ls.length = 2 := by
  induction k with
  | zero => intro e he; simp [dueK] at he
  | succ k ih =>
    intro e he
    unfold dueK at he
    rw [List.mem_append] at he
    rcases he with h | h
    · exact ih e h
    · split at h
      · simp at h; subst h; rfl
      · simp at h
theorem dueP_two (ps : List Pln) (day : Int) : ∀ e ∈ dueP ps day, e.ls.length = 2 := by
  intro e he
  unfold dueP at he
  rw [List.mem_flatMap] at he
  obtain ⟨p, _, h⟩ := he
  exact dueK_two p day _ e h
theorem ne_mem (es : List En) (i : Nat) (h : i < es.length) : ne es i ∈ es := by
  unfold ne; rw [List.getD_eq_getElem?_getD, List.getElem?_eq_getElem h]; exact List.getElem_mem h

/-- slices of integers and of lots -/
theorem fifo_new (A : Option Addr) (n cap : Nat) (xs : List Pr) (w : World) (hr : Pi w A xs) (hn : xs.length = n) (hml : n ≤ maxLen) :
    Calls Tryd.prog 28 #[.slice A n cap] w fun e w' => ∃ U n1 c1 V n2 c2 r os ls, e = .returned (.tuple #[.slice U n1 c1, .slice V n2 c2, .int .i64 r]) ∧ Ri w' U os ∧ os.length = n1 ∧ Nw w.heap.size U n1 ∧ Pi w' V ls ∧ ls.length = n2 ∧ Nw w.heap.size V n2 ∧ Mor w w' := by
  by_cases hc : fifoc xs = 0
  · obtain ⟨h1, s, hs⟩ := fifoc_zero hc
    obtain ⟨h40, hok⟩ := (mvc_iff xs).1 h1
    have hF := fifoS_ok hok (Nat.le_refl _) hs
    have hl1 := hF.len
    have hl2 := hF.outs
    have hl3 := negs_le xs xs.length
    refine (fifo_ok A n cap xs s w hr hn h1 (by rw [← hn]; exact hs)).mono fun e w' h => ?_
    obtain ⟨u, v, rfl, hm, hu, hv⟩ := h
    obtain ⟨U, c1, rfl, -, -, -⟩ := own_shape hu
    obtain ⟨V, c2, rfl, -, -, -⟩ := own_shape hv
    exact ⟨U, _, c1, V, _, c2, 0, s.2, s.1, rfl, own_ri hu, rfl, Nw.own hu (by omega), own_pl hv, rfl, Nw.own hv (by omega), hm⟩
  · refine (fifo_no A n cap xs w hr hn hml hc).mono fun e w' h => ?_
    exact ⟨none, 0, 0, none, 0, 0, _, [], [], h.1, .inl rfl, rfl, Nw.nil _, .inl rfl, rfl, Nw.nil _, h.2⟩
theorem mean_new (A : Option Addr) (n cap : Nat) (xs : List Pr) (w : World) (hr : Pi w A xs) (hn : xs.length = n) (hml : n ≤ maxLen) :
    Calls Tryd.prog 29 #[.slice A n cap] w fun e w' => ∃ U n1 c1 a b r os, e = .returned (.tuple #[.slice U n1 c1, .agg #[.int .i64 a, .int .i64 b], .int .i64 r]) ∧ Ri w' U os ∧ os.length = n1 ∧ Nw w.heap.size U n1 ∧ Mor w w' := by
  by_cases hc : fifoc xs = 0
  · obtain ⟨s, hs⟩ := fifoc_mean hc
    obtain ⟨h40, hok⟩ := (mvc_iff xs).1 (fifoc_zero hc).1
    have hM := meanS_ok hok (Nat.le_refl _) hs
    have hl2 := hM.outs
    have hl3 := negs_le xs xs.length
    refine (mean_ok A n cap xs s w hr hn (fifoc_zero hc).1 (by rw [← hn]; exact hs)).mono fun e w' h => ?_
    obtain ⟨u, rfl, hm, hu⟩ := h
    obtain ⟨U, c1, rfl, -, -, -⟩ := own_shape hu
    exact ⟨U, _, c1, _, _, 0, s.2.2, rfl, own_ri hu, rfl, Nw.own hu (by omega), hm⟩
  · refine (mean_no A n cap xs w hr hn hml hc).mono fun e w' h => ?_
    exact ⟨none, 0, 0, _, _, _, [], h.1, .inl rfl, rfl, Nw.nil _, h.2⟩
theorem pay_new (A : Option Addr) (n cap : Nat) (xs : List Pr) (a : Int) (w : World) (hr : Pi w A xs) (hn : xs.length = n) (h0 : A = none → n = 0) (hml : n ≤ maxLen) :
    Calls Tryd.prog 30 #[.slice A n cap, .int .i64 a] w fun e w' => ∃ U n1 c1 b r os, e = .returned (.tuple #[.slice U n1 c1, .int .i64 b, .int .i64 r]) ∧ Pi w' U os ∧ os.length = n1 ∧ Nw w.heap.size U n1 ∧ Mor w w' := by
  by_cases hc : Sv.payc xs a = 0
  · have h40 : xs.length ≤ 40 := by
      unfold Sv.payc at hc
      split at hc
      · rename_i h1; exact absurd hc h1
      · rename_i h1; exact (itc_zero (Decidable.not_not.1 h1)).1
    have hl := Sv.pay_len (Sv.byDay xs) a
    have hl2 : (Sv.byDay xs).length = xs.length := (isort_perm xs).length_eq
    refine (Sv.pay_yes A n cap xs a w hr hn h0 hc).mono fun e w' h => ?_
    obtain ⟨B, m, cap', rfl, hm, hp, hlm, hB⟩ := h
    refine ⟨B, m, cap', _, _, _, rfl, hp, hlm, ?_, hm⟩
    rcases hB with ⟨rfl, rfl, _⟩ | ⟨g, rfl, hg, _⟩
    · exact Nw.nil _
    · exact Nw.at_ hg (by omega)
  · refine (Sv.pay_no A n cap xs a w hr hn hml hc).mono fun e w' h => ?_
    exact ⟨none, 0, 0, _, _, [], h.1, .inl rfl, rfl, Nw.nil _, h.2⟩
theorem ages_new (A : Option Addr) (n cap : Nat) (xs : List Pr) (t : Int) (B : Option Addr) (m cap' : Nat) (bs : List Int) (w : World) (hr : Pi w A xs) (hn : xs.length = n) (hml : n ≤ maxLen) (hr' : Ri w B bs) (hm : bs.length = m) (hml' : m ≤ maxLen) :
    Calls Tryd.prog 31 #[.slice A n cap, .int .i64 t, .slice B m cap'] w fun e w' => ∃ U n1 c1 r os, e = .returned (.tuple #[.slice U n1 c1, .int .i64 r]) ∧ Ri w' U os ∧ os.length = n1 ∧ Nw w.heap.size U n1 ∧ Mor w w' := by
  by_cases hc : agec xs t bs = 0
  · have hb := (agec_zero hc).2.2.2.1
    refine (ages_ok2 A n cap xs t B m cap' bs w hr hn hr' hm hc).mono fun e w' h => ?_
    obtain ⟨g, rfl, hm, hx, hg⟩ := h
    exact ⟨_, _, _, _, _, rfl, Ri.of_row hx, by simp [ag_len], Nw.at_ hg (by omega), hm⟩
  · refine (ages_no A n cap xs t B m cap' bs w hr hn hml hr' hm hml' hc).mono fun e w' h => ?_
    exact ⟨none, 0, 0, _, [], h.1, .inl rfl, rfl, Nw.nil _, h.2⟩
theorem tie_new (A : Option Addr) (na capa : Nat) (a : List Pr) (B : Option Addr) (nb capb : Nat) (b : List Pr) (v : Int) (w : World) (hra : Pi w A a) (hrb : Pi w B b) (hna : a.length = na) (hnb : b.length = nb) (hma : na ≤ maxLen) (hmb : nb ≤ maxLen) :
    Calls Tryd.prog 24 #[.slice A na capa, .slice B nb capb, .int .i64 v] w fun e w' => ∃ U n1 c1 r os, e = .returned (.tuple #[.slice U n1 c1, .int .i64 r]) ∧ Ri w' U os ∧ os.length = n1 ∧ Nw w.heap.size U n1 ∧ Mor w w' := by
  by_cases hc : tiec a b v = 0
  · have h40 := (itc_zero (tiec_zero hc).1).1
    refine (tie_ok2 A na capa a B nb capb b v w hra hrb hna hnb hc).mono fun e w' h => ?_
    obtain ⟨g, rfl, hm, hx, hg⟩ := h
    exact ⟨_, _, _, _, _, rfl, Ri.of_row hx, tieF_len _ _ _, Nw.at_ hg (by omega), hm⟩
  · refine (tie_no A na capa a B nb capb b v w hra hrb hna hnb hma hmb hc).mono fun e w' h => ?_
    exact ⟨none, 0, 0, _, [], h.1, .inl rfl, rfl, Nw.nil _, h.2⟩

set_option maxRecDepth 100000 in
set_option maxHeartbeats 1600000 in
theorem due_no' (A : Option Addr) (n cap : Nat) (ps : List Pln) (day : Int) (w : World) (hr : Ps w A ps) (hn : ps.length = n) (hcap : n ≤ cap) (hml : cap ≤ maxLen) (ht : Tab w) (hc : plc ps ≠ 0) :
    Calls Tryd.prog 32 #[.slice A n cap, .int .i64 day] w fun e w' => e = .returned (.tuple #[.slice none 0 0, .int .i64 (plc ps)]) ∧ Mor w w' := by
  have HCk := Lib.hid (fun w' (h : Mor w w') => plc_any A n cap ps w' (hr.mor h) hn hcap hml (ht.mor h))
  generalize plc ps = r at *
  have hb : (r != 0) = true := by simpa using hc
  clear hr ht hn
  go_enter Tryd.func32, Tryd.ntmps32
  go_wp2_with (first | (go_at_call 76; (with_reducible refine (HCk.out _ (Mor.refl _)).mono ?_); rintro e w1 ⟨rfl, hm1⟩))
  have HM := Lib.hid hm1
  clear hm1
  go_returns
  exact ⟨rfl, HM.out⟩
theorem due_new (A : Option Addr) (n cap : Nat) (ps : List Pln) (day : Int) (w : World) (hr : Ps w A ps) (hn : ps.length = n) (hcap : n ≤ cap) (hml : cap ≤ maxLen) (ht : Tab w) (d0 : 0 ≤ day) (d9 : day ≤ 292193) :
    Calls Tryd.prog 32 #[.slice A n cap, .int .i64 day] w fun e w' => ∃ X m k r qs es, e = .returned (.tuple #[.slice X m k, .int .i64 r]) ∧ OwnEi w' w.heap.size (.slice X m k) m qs es ∧ m ≤ 1000000 ∧ (∀ i, i < m → (qe qs i).n = 2) ∧ Mor w w' := by
  by_cases h : plc ps = 0
  · refine (due_ok A n cap ps day w hr hn hcap hml ht h d0 d9).mono ?_
    rintro e w' ⟨v, qs, rfl, ho, hm⟩
    obtain ⟨X, k, rfl, -, -, -⟩ := own_shape ho.row
    obtain ⟨h12, hpk, -⟩ := plc_ok h
    have hle := dueP_le ps day hpk ps.length (Nat.le_refl _)
    rw [List.take_of_length_le (Nat.le_refl _)] at hle
    refine ⟨X, _, k, 0, qs, _, rfl, ho, by omega, fun i hi => ?_, hm⟩
    rw [← (ho.own.ent i hi).len]
    exact dueP_two ps day _ (ne_mem _ i hi)
  · refine (due_no' A n cap ps day w hr hn hcap hml ht h).mono ?_
    rintro e w' ⟨rfl, hm⟩
    exact ⟨none, 0, 0, _, [], [], rfl, ⟨⟨World.ownsRow_nil _ _ _ _, rfl, rfl, fun i hi => absurd hi (Nat.not_lt_zero _)⟩, fun j hj => absurd hj (Nat.not_lt_zero _)⟩, by omega, fun i hi => absurd hi (Nat.not_lt_zero _), hm⟩

end Go.Proofs.YtahegjhjonodlaaDoor
