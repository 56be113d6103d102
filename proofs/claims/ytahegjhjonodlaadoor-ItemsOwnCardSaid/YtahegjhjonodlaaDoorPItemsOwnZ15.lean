/- Slices of items that the call itself makes. -/
import Derived.Test.YtahegjhjonodlaaDoorPItemsOwnZ1
import Derived.Test.YtahegjhjonodlaaDoorPItemsOwnZ3
import Derived.Test.YtahegjhjonodlaaDoorPItemsOwnZ4
import Derived.Test.YtahegjhjonodlaaDoorPItemsOwnZ5
import Derived.Test.YtahegjhjonodlaaDoorPItemsOwnZ6
import Derived.Test.YtahegjhjonodlaaDoorPItemsOwnZ7
import Derived.Test.YtahegjhjonodlaaDoorRows
import Derived.BigQuiet
import Derived.DataElems
import Derived.Deep.OwnRows
import Derived.Deep.QuietTactic
import Derived.Deep.SlicePairs
import Derived.Handy
import Derived.Lib.Hide
import Derived.OpenShut
import Derived.Outline
import Derived.OwnWalk
import Derived.ProofKit
import Derived.RegionTactic
import Derived.WalkKit
namespace Go.Proofs.YtahegjhjonodlaaDoor
open Go.ChangeShapes Go.WideShapes Go.ChangeAt Go.RowKit
set_option linter.unusedVariables false
set_option maxRecDepth 100000

theorem info_item : (Tryd.prog.info? 52).map (fun i => (i.zero, i.size, i.bytes)) = some (some (.agg #[.int .i64 0, .int .i64 0]), 2, 16) := by kernel_rfl
/-- the two cells of an item -/
def pp (p : Pr) : List Value := [.int .i64 p.1, .int .i64 p.2]
theorem Rd.pi {w : World} {A : Option Addr} {xs : List Pr} (h : Rd w A (flat pp xs)) : Pi w A xs := by
  by_cases h0 : xs = []
  · exact .inl h0
  · have hl : 0 < xs.length := List.length_pos_iff.2 h0
    obtain ⟨b, o, rfl, hb, _⟩ := h.field 2 (fun _ => rfl) 0 hl (by omega)
    refine .inr ⟨_, rfl, hb, fun i hi => ?_⟩
    obtain ⟨b', o', e, _, hc⟩ := h.field 2 (fun _ => rfl) i hi (by omega)
    injection e with e
    injection e with e1 e2
    subst e1 e2
    rw [adds]
    refine ⟨?_, ?_⟩
    · have := hc 0 (by omega)
      rw [Nat.add_zero] at this
      rw [this]
      unfold px
      rw [show xs.getD i (0, 0) = xs[i] by rw [List.getD_eq_getElem?_getD, List.getElem?_eq_getElem hi]; rfl]; rfl
    · have := hc 1 (by omega)
      rw [this]
      unfold py
      rw [show xs.getD i (0, 0) = xs[i] by rw [List.getD_eq_getElem?_getD, List.getElem?_eq_getElem hi]; rfl]; rfl
theorem own_pi {w : World} {base n c : Nat} {T : TypeId} {A : Option Addr} {xs : List Pr} (h : w.ownsRow base T 2 (.slice A n c) n (flat pp xs)) : Pi w A xs := (Rd.own h).pi
theorem pi_new {w : World} {b : Nat} {T : TypeId} {C : Array Value} (xs : List Pr) (hb : b = w.heap.size) (hC : C = (flat pp xs).toArray) : Pi (w.alloc (.cells C T)) (some ⟨b, 0, none⟩) xs := (Rd.new _ hb hC).pi
end Go.Proofs.YtahegjhjonodlaaDoor

/- The walks of age.Check, slices.BinarySearch at []int, talkeep.owed. -/
namespace Go.Proofs.YtahegjhjonodlaaDoor
open Go.ChangeShapes Go.WideShapes Go.ChangeAt Go.RowKit
set_option linter.unusedVariables false
set_option maxRecDepth 100000

set_option maxHeartbeats 400000 in
theorem cis_anyA (n : Int) (w : World) : Calls Tryd.prog 74 #[.int .i64 n] w fun e w' => e = .returned (.bool (decide (0 ≤ n) && decide (n ≤ 292193))) ∧ w = w' := by
  by_cases a : 0 ≤ n <;> by_cases b : n ≤ 292193
  all_goals
    go_enter Tryd.func74, Tryd.ntmps74
    go_wp2
    go_ret
    exact ⟨by simp [*], rfl⟩

set_option maxRecDepth 100000 in
set_option maxHeartbeats 3200000 in
theorem acheck_any (A : Option Addr) (n cap : Nat) (xs : List Pr) (w : World) (hr : Pi w A xs) (hn : xs.length = n) (hml : n ≤ maxLen) :
    Calls Tryd.prog 65 #[.slice A n cap] w fun e w' => e = .returned (.int .i64 (itc xs)) ∧ Mor w w' := by
  unfold maxLen at hml
  have HR := Lib.hid hr
  have HN := Lib.hid hn
  clear hr
  by_cases h12 : 40 < n
  · have HL := Lib.hid (show itc xs = 2 by unfold itc; rw [hn, if_pos h12])
    clear hn
    go_enter Tryd.func65, Tryd.ntmps65
    go_wp2
    go_ret
    exact ⟨by rw [HL.out] <;> rfl, Mor.refl _⟩
  · have HL := Lib.hid (show itc xs = if itOk xs n = true then 0 else 1 by unfold itc; rw [hn, if_neg h12])
    have h12' : n ≤ 40 := by omega
    clear hn h12
    go_enter Tryd.func65, Tryd.ntmps65
    go_wp2
    go_loopw [10] (fun i wr => ∃ k : Nat, k ≤ n ∧ i = .int .i64 k ∧ Hid (itOk xs k = true) ∧ Hid (Mor w wr)) (fun i _ => n - (intOf i).toNat)
    case atStart => exact ⟨0, Nat.zero_le _, rfl, Lib.hid rfl, Lib.hid (Mor.refl _)⟩
    case round =>
      obtain ⟨k, hk, rfl, HU, HM⟩ := hrel
      by_cases hlt : k < n
      · have hki : (k : Int) < (n : Int) := by omega
        have hk0 : (0 : Int) ≤ (k : Int) := by omega
        obtain ⟨x, hA, hxb, c1, c2⟩ := (HR.out.mor HM.out).at_ k (by have := HN.out; omega)
        subst hA
        have HBad := Lib.hid (fun h : itAt xs k = false => show itc xs = 1 by rw [HL.out, itOk_bad h hlt]; rfl)
        have HAt := Lib.hid (show itAt xs k = (decide (0 ≤ px xs k) && decide (px xs k ≤ 292193) && decide (1 ≤ py xs k) && decide (py xs k ≤ 1000000000000)) from rfl)
        have HOk := Lib.hid (fun h : itAt xs k = true => show itOk xs (k + 1) = true by rw [itOk_succ, HU.out, h]; rfl)
        have HI := Lib.hid (fun w => cis_anyA (px xs k) w)
        generalize px xs k = d at *
        generalize py xs k = a at *
        have hcase : (d < 0 ∨ 292193 < d) ∨ (0 ≤ d ∧ d ≤ 292193 ∧ a < 1) ∨ (0 ≤ d ∧ d ≤ 292193 ∧ 1000000000000 < a) ∨ (0 ≤ d ∧ d ≤ 292193 ∧ 1 ≤ a ∧ a ≤ 1000000000000) := by omega
        rcases hcase with h | ⟨h1, h2, h3⟩ | ⟨h1, h2, h3⟩ | ⟨h1, h2, h3, h4⟩
        · have HF := Lib.hid (HBad.out (by rw [HAt.out]; simp; omega))
          rw [show (decide (0 ≤ d) && decide (d ≤ 292193)) = false by simp; omega] at HI
          clear h
          go_wp2_with ((go_at_call 74; (with_reducible refine (HI.out _).mono ?_); rintro e w1 ⟨rfl, rfl⟩))
          go_ret
          exact ⟨by rw [HF.out] <;> rfl, HM.out.alloc⟩
        · have HF := Lib.hid (HBad.out (by rw [HAt.out]; simp; omega))
          rw [show (decide (0 ≤ d) && decide (d ≤ 292193)) = true by simp; omega] at HI
          go_wp2_with ((go_at_call 74; (with_reducible refine (HI.out _).mono ?_); rintro e w1 ⟨rfl, rfl⟩))
          go_ret
          exact ⟨by rw [HF.out] <;> rfl, HM.out.alloc⟩
        · have HF := Lib.hid (HBad.out (by rw [HAt.out]; simp; omega))
          rw [show (decide (0 ≤ d) && decide (d ≤ 292193)) = true by simp; omega] at HI
          go_wp2_with ((go_at_call 74; (with_reducible refine (HI.out _).mono ?_); rintro e w1 ⟨rfl, rfl⟩))
          go_ret
          exact ⟨by rw [HF.out] <;> rfl, HM.out.alloc⟩
        · have HG := Lib.hid (HOk.out (by rw [HAt.out]; simp; omega))
          rw [show (decide (0 ≤ d) && decide (d ≤ 292193)) = true by simp; omega] at HI
          go_wp2_with ((go_at_call 74; (with_reducible refine (HI.out _).mono ?_); rintro e w1 ⟨rfl, rfl⟩))
          go_roundw
          case rel => exact ⟨k + 1, by omega, by go_num, HG, Lib.hid HM.out.alloc⟩
          case measure => simp [intOf]; omega
      · obtain rfl : k = n := by omega
        have HF := Lib.hid (show itc xs = 0 by rw [HL.out, HU.out]; rfl)
        go_wp2
        go_ret
        exact ⟨by rw [HF.out] <;> rfl, HM.out⟩

set_option maxHeartbeats 400000 in
theorem less_any (x y : Int) (w : World) : Calls Tryd.prog 88 #[.int .i64 x, .int .i64 y] w fun e w' => e = .returned (.bool (decide (x < y))) ∧ w = w' := by
  go_enter Tryd.func88, Tryd.ntmps88
  go_wp2
  go_ret
  exact ⟨by simp, rfl⟩
def BsPost (w : World) (p : Nat) (e : Ending) (w' : World) : Prop := ∃ b : Value, e = .returned (.tuple #[.int .i64 (p : Nat), b]) ∧ w = w'
theorem ei_getD (xs : List Int) (i : Nat) : xs.getD i 0 = ei xs i := rfl

set_option maxHeartbeats 3200000 in
theorem bsearch_any (A : Option Addr) (n cap : Nat) (bs : List Int) (t : Int) (w : World) (hr : Ri w A bs) (hn : bs.length = n) (hs : Rise bs) (hl : n ≤ 1000) :
    Calls Tryd.prog 75 #[.slice A n cap, .int .i64 t] w (BsPost w (pos bs t)) := by
  have HR := Lib.hid hr
  have HN := Lib.hid hn
  have HS := Lib.hid hs
  clear hr hn hs
  go_enter Tryd.func75, Tryd.ntmps75
  go_wp2
  go_loop [7, 8] (fun a b => ∃ lo hi : Nat, a = .int .i64 lo ∧ b = .int .i64 hi ∧ lo ≤ hi ∧ hi ≤ n ∧ Hid (∀ i, i < lo → ei bs i < t) ∧ Hid (∀ i, hi ≤ i → i < n → t ≤ ei bs i)) (fun a b => (intOf b - intOf a).toNat)
  case atStart => exact ⟨0, n, rfl, rfl, Nat.zero_le _, Nat.le_refl _, Lib.hid (fun i hi => absurd hi (Nat.not_lt_zero _)), Lib.hid (fun i h1 h2 => by omega)⟩
  case round =>
    obtain ⟨lo, hi, rfl, rfl, h1, h2, HA, HB⟩ := hrel
    by_cases hlt : lo < hi
    · have hki : (lo : Int) < (hi : Int) := by omega
      obtain ⟨m, hm⟩ : ∃ m : Nat, m = (lo + hi) / 2 := ⟨_, rfl⟩
      have hm1 : ((lo : Int) + (hi : Int)) / 2 = (m : Int) := by omega
      have m1 : lo ≤ m := by omega
      have m2 : m < hi := by omega
      have hm0 : (0 : Int) ≤ (m : Int) := by omega
      have hmn : (m : Int) < (n : Int) := by omega
      obtain ⟨x, hA, hxb, c1⟩ := HR.out.at_ m (by rw [HN.out]; omega)
      subst hA
      rw [ei_getD] at c1
      have HL := Lib.hid (fun w => less_any (ei bs m) t w)
      have HLo := Lib.hid (fun h : ei bs m < t => show ∀ i, i < m + 1 → ei bs i < t from fun i hi => by
        by_cases e : i = m
        · subst e; exact h
        · have := HS.out i m (by omega) (by rw [HN.out]; omega); omega)
      have HHi := Lib.hid (fun h : ¬ ei bs m < t => show ∀ i, m ≤ i → i < n → t ≤ ei bs i from fun i hi hn' => by
        by_cases e : i = m
        · subst e; omega
        · have := HS.out m i (by omega) (by rw [HN.out]; omega); omega)
      generalize ei bs m = v at *
      clear hm
      by_cases hv : v < t
      · have HLo' := Lib.hid (HLo.out hv)
        rw [decide_eq_true hv] at HL
        clear hv
        go_wp2_with ((go_at_call 88; (with_reducible refine (HL.out _).mono ?_); rintro e w1 ⟨rfl, rfl⟩))
        go_round
        case rel => exact ⟨m + 1, hi, by go_num, rfl, by omega, h2, HLo', HB⟩
        case measure => simp [intOf]; omega
      · have HHi' := Lib.hid (HHi.out hv)
        rw [decide_eq_false hv] at HL
        clear hv
        go_wp2_with ((go_at_call 88; (with_reducible refine (HL.out _).mono ?_); rintro e w1 ⟨rfl, rfl⟩))
        go_round
        case rel => exact ⟨lo, m, rfl, rfl, by omega, by omega, HA, HHi'⟩
        case measure => simp [intOf]; omega
    · obtain rfl : hi = lo := by omega
      have HP := Lib.hid (show pos bs t = hi from pos_spec (by rw [HN.out]; exact h2) HA.out (fun i hi hn' => HB.out i hi (by rw [← HN.out]; exact hn')))
      by_cases he : hi < n
      · have hki : (hi : Int) < (n : Int) := by omega
        have hk0 : (0 : Int) ≤ (hi : Int) := by omega
        obtain ⟨x, hA, hxb, c1⟩ := HR.out.at_ hi (by rw [HN.out]; exact he)
        subst hA
        rw [ei_getD] at c1
        generalize ei bs hi = v at *
        by_cases hv : v = t
        · have hv2 : (v == t) = true := by simpa using hv
          go_wp2
          go_returns
          exact ⟨_, by rw [HP.out] <;> rfl, rfl⟩
        · have hv2 : (v == t) = false := by simpa using hv
          go_wp2
          go_returns
          exact ⟨_, by rw [HP.out] <;> rfl, rfl⟩
      · have hki : ¬ ((hi : Int) < (n : Int)) := by omega
        go_wp2
        go_returns
        exact ⟨_, by rw [HP.out] <;> rfl, rfl⟩

end Go.Proofs.YtahegjhjonodlaaDoor

/- The walk of age.Ages. -/
namespace Go.Proofs.YtahegjhjonodlaaDoor
open Go.ChangeShapes Go.WideShapes Go.ChangeAt Go.RowKit
set_option linter.unusedVariables false
set_option maxRecDepth 100000

theorem itc_zero {xs : List Pr} (h : itc xs = 0) : xs.length ≤ 40 ∧ itOk xs xs.length = true := by
  unfold itc at h
  split at h
  · omega
  · split at h
    · exact ⟨by omega, by assumption⟩
    · omega
theorem agec_zero {xs : List Pr} {t : Int} {bs : List Int} (h : agec xs t bs = 0) : itc xs = 0 ∧ 0 ≤ t ∧ t ≤ 292193 ∧ bs.length ≤ 40 ∧ bdUp bs bs.length = 0 := by
  unfold agec at h
  split at h
  · omega
  · split at h
    · omega
    · split at h
      · omega
      · exact ⟨by omega, by omega, by omega, by omega, h⟩
theorem bdAt_zero {bs : List Int} {i : Nat} (h : bdAt bs i = 0) : 0 ≤ ei bs i ∧ ei bs i ≤ 292193 ∧ (0 < i → ei bs (i - 1) < ei bs i) := by
  unfold bdAt at h
  split at h
  · omega
  · split at h
    · omega
    · rename_i h1 h2
      refine ⟨by omega, by omega, fun h3 => ?_⟩
      by_cases h4 : ei bs (i - 1) < ei bs i
      · exact h4
      · exact absurd ⟨h3, by omega⟩ h2
/-- no bucket holds more than all -/
theorem ag_bd {xs : List Pr} {t : Int} {bs : List Int} {j : Nat} (h : ∀ k, k < j → 1 ≤ py xs k ∧ py xs k ≤ 1000000000000) (i : Nat) : 0 ≤ ei (ag xs t bs j) i ∧ ei (ag xs t bs j) i ≤ 1000000000000 * j := by
  induction j generalizing i with
  | zero =>
    have : ei (ag xs t bs 0) i = 0 := by
      unfold ei ag
      rw [List.getD_eq_getElem?_getD, List.getElem?_replicate]; split <;> rfl
    rw [this]; simp
  | succ j ih =>
    have h1 := fun i => ih (fun k hk => h k (by omega)) i
    have h2 := h j (by omega)
    have h3 := h1 i
    have h4 := h1 (pos bs (aged xs t j))
    have : ei (ag xs t bs (j + 1)) i = ei (ag xs t bs j) i ∨ ei (ag xs t bs (j + 1)) i = ei (ag xs t bs j) (pos bs (aged xs t j)) + py xs j := by
      show ei ((ag xs t bs j).set _ _) i = _ ∨ ei ((ag xs t bs j).set _ _) i = _
      unfold ei
      rw [List.getD_eq_getElem?_getD, List.getElem?_set]
      split
      · split
        · exact .inr rfl
        · rename_i e h; subst e; left; rw [List.getD_eq_getElem?_getD, List.getElem?_eq_none (by omega)]
      · exact .inl (by rw [List.getD_eq_getElem?_getD])
    rcases this with e | e <;> rw [e] <;> omega
def AgNo (w : World) (c : Int) (e : Ending) (w' : World) : Prop := e = .returned (.tuple #[.slice none 0 0, .int .i64 c]) ∧ Mor w w'

set_option maxRecDepth 100000 in
set_option maxHeartbeats 3200000 in
theorem ages_no (A : Option Addr) (n cap : Nat) (xs : List Pr) (t : Int) (B : Option Addr) (m cap' : Nat) (bs : List Int) (w : World) (hr : Pi w A xs) (hn : xs.length = n) (hml : n ≤ maxLen) (hr' : Ri w B bs) (hm : bs.length = m) (hml' : m ≤ maxLen) (hc : agec xs t bs ≠ 0) :
    Calls Tryd.prog 31 #[.slice A n cap, .int .i64 t, .slice B m cap'] w (AgNo w (agec xs t bs)) := by
  have HC := Lib.hid (acheck_any A n cap xs w hr hn hml)
  have HI := Lib.hid (fun w => cis_anyA t w)
  have HR := Lib.hid hr'
  have HM0 := Lib.hid hm
  unfold maxLen at hml'
  clear hr hr'
  by_cases h1 : itc xs = 0
  · rw [h1] at HC
    by_cases h2 : t < 0 ∨ 292193 < t
    · rw [show (decide (0 ≤ t) && decide (t ≤ 292193)) = false by simp; omega] at HI
      have HF := Lib.hid (show agec xs t bs = 1 by unfold agec; rw [if_neg (by simp [h1]), if_pos h2])
      clear h1 h2 hc hm hn
      go_enter Tryd.func31, Tryd.ntmps31
      go_wp2_with (first
        | (go_at_call 65; (with_reducible refine (HC.out).mono ?_); rintro e w1 ⟨rfl, hM⟩)
        | (go_at_call 74; (with_reducible refine (HI.out _).mono ?_); rintro e w2 ⟨rfl, rfl⟩))
      go_returns
      exact ⟨by rw [HF.out] <;> rfl, hM⟩
    · rw [show (decide (0 ≤ t) && decide (t ≤ 292193)) = true by simp; omega] at HI
      by_cases h3 : 40 < m
      · have HF := Lib.hid (show agec xs t bs = 2 by unfold agec; rw [if_neg (by simp [h1]), if_neg h2, if_pos (by omega)])
        clear h1 h2 hc hm hn
        go_enter Tryd.func31, Tryd.ntmps31
        go_wp2_with (first
          | (go_at_call 65; (with_reducible refine (HC.out).mono ?_); rintro e w1 ⟨rfl, hM⟩)
          | (go_at_call 74; (with_reducible refine (HI.out _).mono ?_); rintro e w2 ⟨rfl, rfl⟩))
        go_returns
        exact ⟨by rw [HF.out] <;> rfl, hM⟩
      · have HF := Lib.hid (show agec xs t bs = bdUp bs m by unfold agec; rw [if_neg (by simp [h1]), if_neg h2, if_neg (by omega), hm])
        have HNZ := Lib.hid (show bdUp bs m ≠ 0 by rw [← HF.out]; exact hc)
        have h3' : m ≤ 40 := by omega
        clear h1 h2 hc hm hn h3
        go_enter Tryd.func31, Tryd.ntmps31
        go_wp2_with (first
          | (go_at_call 65; (with_reducible refine (HC.out).mono ?_); rintro e w1 ⟨rfl, hM⟩)
          | (go_at_call 74; (with_reducible refine (HI.out _).mono ?_); rintro e w2 ⟨rfl, rfl⟩))
        have HM1 := Lib.hid hM
        clear hM
        go_loopw [29] (fun i wr => ∃ k : Nat, k ≤ m ∧ i = .int .i64 k ∧ Hid (bdUp bs k = 0) ∧ Hid (Mor w wr)) (fun i _ => m - (intOf i).toNat)
        case atStart => exact ⟨0, Nat.zero_le _, rfl, Lib.hid rfl, HM1⟩
        case round =>
          obtain ⟨k, hk, rfl, HU, HM⟩ := hrel
          by_cases hlt : k < m
          · have hki : (k : Int) < (m : Int) := by omega
            have hk0 : (0 : Int) ≤ (k : Int) := by omega
            obtain ⟨x, hA, hxb, c1⟩ := (HR.out.mor HM.out).at_ k (by have := HM0.out; omega)
            rw [ei_getD] at c1
            have HBad := Lib.hid (fun h : bdAt bs k ≠ 0 => show agec xs t bs = bdAt bs k by rw [HF.out]; exact bdUp_bad HU.out h hlt)
            have HOk := Lib.hid (fun h : bdAt bs k = 0 => show bdUp bs (k + 1) = 0 from bdUp_ok HU.out h)
            have HAt := Lib.hid (show bdAt bs k = if ei bs k < 0 ∨ 292193 < ei bs k then 1 else if 0 < k ∧ ei bs k ≤ ei bs (k - 1) then 3 else 0 from rfl)
            by_cases hk1 : 0 < k
            · obtain ⟨x', hA', hxb', c2⟩ := (HR.out.mor HM.out).at_ (k - 1) (by have := HM0.out; omega)
              rw [ei_getD] at c2
              have e : x' = x := by rw [hA] at hA'; injection hA' with e; exact e.symm
              subst e
              subst hA
              clear hA' hxb'
              have hk2 : 0 < (k : Int) := by omega
              have ek : (k : Int) - 1 = ((k - 1 : Nat) : Int) := by omega
              have hk4 : ((k - 1 : Nat) : Int) < (m : Int) := by omega
              have hk5 : (0 : Int) ≤ ((k - 1 : Nat) : Int) := by omega
              generalize ei bs (k - 1) = u at *
              generalize ei bs k = v at *
              have hcase : v < 0 ∨ (0 ≤ v ∧ 292193 < v) ∨ (0 ≤ v ∧ v ≤ 292193 ∧ v ≤ u) ∨ (0 ≤ v ∧ v ≤ 292193 ∧ u < v) := by omega
              rcases hcase with h | h | h | h
              · have HE := Lib.hid (show agec xs t bs = 1 by
                  have e : bdAt bs k = 1 := by rw [HAt.out, if_pos (by omega)]
                  rw [HBad.out (by omega), e])
                go_wp2
                go_returns
                exact ⟨by rw [HE.out] <;> rfl, HM.out⟩
              · have HE := Lib.hid (show agec xs t bs = 1 by
                  have e : bdAt bs k = 1 := by rw [HAt.out, if_pos (by omega)]
                  rw [HBad.out (by omega), e])
                obtain ⟨h1, h2⟩ := h
                go_wp2
                go_returns
                exact ⟨by rw [HE.out] <;> rfl, HM.out⟩
              · have HE := Lib.hid (show agec xs t bs = 3 by
                  have e : bdAt bs k = 3 := by rw [HAt.out, if_neg (by omega), if_pos ⟨hk1, by omega⟩]
                  rw [HBad.out (by omega), e])
                obtain ⟨h1, h2, h3⟩ := h
                go_wp2
                go_returns
                exact ⟨by rw [HE.out] <;> rfl, HM.out⟩
              · have HE := Lib.hid (HOk.out (by rw [HAt.out, if_neg (by omega), if_neg (by omega)]))
                obtain ⟨h1, h2, h3⟩ := h
                go_wp2
                go_roundw
                case rel => exact ⟨k + 1, by omega, by go_num, HE, Lib.hid HM.out⟩
                case measure => simp [intOf]; omega
            · have hk2 : ¬ (0 < (k : Int)) := by omega
              have HK0 := Lib.hid (show k = 0 by omega)
              subst hA
              clear HAt
              have HAt := Lib.hid (show bdAt bs k = if ei bs k < 0 ∨ 292193 < ei bs k then 1 else 0 by
                unfold bdAt; split
                · rfl
                · rw [if_neg (by have := HK0.out; omega)])
              generalize ei bs k = v at *
              have hcase : v < 0 ∨ (0 ≤ v ∧ 292193 < v) ∨ (0 ≤ v ∧ v ≤ 292193) := by omega
              rcases hcase with h | h | h
              · have HE := Lib.hid (show agec xs t bs = 1 by
                  have e : bdAt bs k = 1 := by rw [HAt.out, if_pos (by omega)]
                  rw [HBad.out (by omega), e])
                go_wp2
                go_returns
                exact ⟨by rw [HE.out] <;> rfl, HM.out⟩
              · have HE := Lib.hid (show agec xs t bs = 1 by
                  have e : bdAt bs k = 1 := by rw [HAt.out, if_pos (by omega)]
                  rw [HBad.out (by omega), e])
                obtain ⟨h1, h2⟩ := h
                go_wp2
                go_returns
                exact ⟨by rw [HE.out] <;> rfl, HM.out⟩
              · have HE := Lib.hid (HOk.out (by rw [HAt.out, if_neg (by omega)]))
                obtain ⟨h1, h2⟩ := h
                go_wp2
                go_roundw
                case rel => exact ⟨k + 1, by omega, by go_num, HE, Lib.hid HM.out⟩
                case measure => simp [intOf]; omega
          · obtain rfl : k = m := by omega
            exact absurd HU.out HNZ.out
  · have HF := Lib.hid (show agec xs t bs = itc xs by unfold agec; rw [if_pos h1])
    have h1' : (itc xs == 0) = false := by simpa using h1
    generalize itc xs = c at *
    clear hc hm hn
    go_enter Tryd.func31, Tryd.ntmps31
    go_wp2_with (first
      | (go_at_call 65; (with_reducible refine (HC.out).mono ?_); rintro e w1 ⟨rfl, hM⟩))
    go_returns
    exact ⟨by rw [HF.out] <;> rfl, hM⟩

end Go.Proofs.YtahegjhjonodlaaDoor

/- The walk of age.Ages, where all is right. -/
namespace Go.Proofs.YtahegjhjonodlaaDoor
open Go.ChangeShapes Go.WideShapes Go.ChangeAt Go.RowKit
set_option linter.unusedVariables false
set_option maxRecDepth 100000

set_option maxRecDepth 100000 in
def AgPost2 (w : World) (xs : List Pr) (t : Int) (bs : List Int) (n : Nat) (e : Ending) (w' : World) : Prop :=
  ∃ g, e = .returned (.tuple #[.slice (some ⟨g, 0, none⟩) (bs.length + 1) (bs.length + 1), .int .i64 0]) ∧ Mor w w' ∧ Row w' g 0 (ag xs t bs n) ∧ w.heap.size ≤ g

set_option maxHeartbeats 3200000 in
theorem ages_ok2 (A : Option Addr) (n cap : Nat) (xs : List Pr) (t : Int) (B : Option Addr) (m cap' : Nat) (bs : List Int) (w : World) (hr : Pi w A xs) (hn : xs.length = n) (hr' : Ri w B bs) (hm : bs.length = m) (hc : agec xs t bs = 0) :
    Calls Tryd.prog 31 #[.slice A n cap, .int .i64 t, .slice B m cap'] w (AgPost2 w xs t bs n) := by
  obtain ⟨c1, c2, c3, c4, c5⟩ := agec_zero hc
  obtain ⟨c6, c7⟩ := itc_zero c1
  obtain ⟨p, hp⟩ : ∃ p, p = m + 1 := ⟨_, rfl⟩
  have HPm := Lib.hid hp
  have hmi : ((m : Int) + 1) = (p : Int) := by omega
  have hmk := fun w => run_make_row' (P := Tryd.prog) 22 3 (.int .i64 0) 8 Tryd.underlying22 info_int' rfl .i64 .i64 p (by omega) (by omega) w
  have HC := Lib.hid (acheck_any A n cap xs w hr hn (by unfold maxLen; omega))
  have HI := Lib.hid (fun w => cis_anyA t w)
  rw [show (decide (0 ≤ t) && decide (t ≤ 292193)) = true by simp; omega] at HI
  rw [c1] at HC
  have HR := Lib.hid hr
  have HR' := Lib.hid hr'
  have HN := Lib.hid hn
  have HM0 := Lib.hid hm
  have HS := Lib.hid (rise_of c5)
  have HB0 := Lib.hid (fun k (h : k < m) => bdAt_zero (bdUp_at c5 (k := k) (by omega)))
  have HIt := Lib.hid (fun k (h : k < n) => itOk_at c7 (k := k) (by omega))
  have n40 : n ≤ 40 := by omega
  have m40 : m ≤ 40 := by omega
  have HBS := Lib.hid (fun v w h => bsearch_any B m cap' bs v w h hm (rise_of c5) (by omega))
  clear hp hr hr' hn hm hc c1 c4 c5 c6 c7
  go_enter Tryd.func31, Tryd.ntmps31
  go_wp2_with (first
    | (go_at_call 65; (with_reducible refine (HC.out).mono ?_); rintro e w1 ⟨rfl, hM⟩)
    | (go_at_call 74; (with_reducible refine (HI.out _).mono ?_); rintro e w2 ⟨rfl, rfl⟩))
  have HM1 := Lib.hid hM
  clear hM HC
  go_loopw [29] (fun i wr => ∃ k : Nat, k ≤ m ∧ i = .int .i64 k ∧ Hid (Mor w wr)) (fun i _ => m - (intOf i).toNat)
  case atStart => exact ⟨0, Nat.zero_le _, rfl, HM1⟩
  case round =>
    obtain ⟨k, hk, rfl, HM⟩ := hrel
    by_cases hlt : k < m
    · have hki : (k : Int) < (m : Int) := by omega
      have hk0 : (0 : Int) ≤ (k : Int) := by omega
      obtain ⟨x, hA, hxb, c1⟩ := (HR'.out.mor HM.out).at_ k (by have := HM0.out; omega)
      rw [ei_getD] at c1
      obtain ⟨b1, b2, b3⟩ := HB0.out k hlt
      clear hmk
      by_cases hk1 : 0 < k
      · obtain ⟨x', hA', hxb', c2⟩ := (HR'.out.mor HM.out).at_ (k - 1) (by have := HM0.out; omega)
        rw [ei_getD] at c2
        have e : x' = x := by rw [hA] at hA'; injection hA' with e; exact e.symm
        subst e
        subst hA
        clear hA' hxb'
        have hk2 : 0 < (k : Int) := by omega
        have ek : (k : Int) - 1 = ((k - 1 : Nat) : Int) := by omega
        have hk4 : ((k - 1 : Nat) : Int) < (m : Int) := by omega
        have hk5 : (0 : Int) ≤ ((k - 1 : Nat) : Int) := by omega
        have b4 := b3 hk1
        clear b3
        generalize ei bs (k - 1) = u at *
        generalize ei bs k = v at *
        go_wp2
        go_roundw
        case rel => exact ⟨k + 1, by omega, by go_num, HM⟩
        case measure => simp [intOf]; omega
      · have hk2 : ¬ (0 < (k : Int)) := by omega
        subst hA
        clear b3
        generalize ei bs k = v at *
        go_wp2
        go_roundw
        case rel => exact ⟨k + 1, by omega, by go_num, HM⟩
        case measure => simp [intOf]; omega
    · obtain rfl : k = m := by omega
      go_wp2
      rw [ic_zero]
      clear hmk hmi
      have HWr := Lib.hid (show w.heap.size ≤ wr.heap.size from HM.out.below.size)
      obtain ⟨g, hg⟩ : ∃ g, g = wr.heap.size := ⟨_, rfl⟩
      have HGe := Lib.hid hg
      rw [← hg]
      obtain ⟨w5, hw5⟩ : ∃ w5, w5 = wr := ⟨_, rfl⟩
      subst hw5
      clear hg
      go_loopw [58] (fun c wr => ∃ (r : Nat), r ≤ n ∧ c = .int .i64 r ∧ Hid (Mor w5 wr) ∧ Hid (Blk wr g 3 (ic (ag xs t bs r)))) (fun c _ => n - (intOf c).toNat)
      case atStart =>
        refine ⟨0, Nat.zero_le _, rfl, Lib.hid (Mor.refl _).alloc, Lib.hid ?_⟩
        rw [HGe.out, HPm.out, ← HM0.out]; exact Blk.new _ _ _
      case round =>
        obtain ⟨r, hrm, rfl, HM2, HBlk⟩ := hrel
        by_cases hlt2 : r < n
        · have hri : ((r : Nat) : Int) < (n : Int) := by omega
          have hr0 : (0 : Int) ≤ (r : Int) := by omega
          obtain ⟨x, hA, hxb, c1, c2'⟩ := (HR.out.mor (HM.out.trans' HM2.out)).at_ r (by have := HN.out; omega)
          subst hA
          have HAg := Lib.hid (show aged xs t r = if 0 < t - px xs r then t - px xs r else 0 by unfold aged; split <;> split <;> omega)
          obtain ⟨v, hv⟩ : ∃ v, aged xs t r = v := ⟨_, rfl⟩
          have HV := Lib.hid hv
          have HBS' := Lib.hid (HBS.out v (wr.alloc (.cells #[.int .i64 (px xs r), .int .i64 (py xs r)] 52)) (((HR'.out.mor HM.out).mor HM2.out).mor (Mor.refl _).alloc))
          obtain ⟨b1, b2, b3, b4⟩ := HIt.out r hlt2
          obtain ⟨q, hq⟩ : ∃ q, pos bs v = q := ⟨_, rfl⟩
          have hqp : q < p := by have := pos_le bs v; have := HM0.out; have := HPm.out; omega
          obtain ⟨a1, a2⟩ := ag_bd (xs := xs) (t := t) (bs := bs) (j := r) (fun k hk => (HIt.out k (by omega)).2.2) q
          have HF := Lib.hid (fun (w9 : World) (h1 : Mor w5 w9) (h2 : Blk w9 g 3 (ic (ag xs t bs r))) => show
              w9.cell? ⟨g, q, none⟩ = some (.int .i64 (ei (ag xs t bs r) q)) ∧ w9.frozen? ⟨g, q, none⟩ = false ∧
              Blk (w9.setCell ⟨g, q, none⟩ (.int .i64 (ei (ag xs t bs r) q + py xs r))) g 3 (ic (ag xs t bs (r + 1))) ∧
              Mor w5 (w9.setCell ⟨g, q, none⟩ (.int .i64 (ei (ag xs t bs r) q + py xs r))) by
            refine ⟨by rw [h2.cell, ic_get _ _ (by rw [ag_len]; have := HM0.out; have := HPm.out; omega)]; rfl, h2.frozen q, ?_, Mor.of_below (h1.below.setCell (by rw [HGe.out]; exact Nat.le_refl _) _)⟩
            have e : ag xs t bs (r + 1) = (ag xs t bs r).set q (ei (ag xs t bs r) q + py xs r) := by
              show (ag xs t bs r).set (pos bs (aged xs t r)) (ei (ag xs t bs r) (pos bs (aged xs t r)) + py xs r) = _
              rw [HV.out, hq]
            rw [e, ← ic_set]; exact h2.set_ q _)
          have hq1 : ((q : Nat) : Int) < (p : Int) := by omega
          have hq0 : (0 : Int) ≤ (q : Int) := by omega
          have HVe := Lib.hid (show v = if 0 < t - px xs r then t - px xs r else 0 by rw [← HAg.out, hv])
          rw [hq] at HBS'
          generalize ei (ag xs t bs r) q = a at *
          generalize px xs r = d at *
          generalize py xs r = y at *
          clear hv hq
          by_cases hmx : 0 < t - d
          · obtain rfl : v = t - d := by rw [HVe.out, if_pos hmx]
            go_wp2_with (first
              | (go_at_call 75; (with_reducible refine (HBS'.out).mono ?_); rintro e w9 ⟨b, rfl, hw9⟩; obtain ⟨c4, hfz, f1, f2⟩ := HF.out w9 (hw9 ▸ HM2.out.alloc) (hw9 ▸ HBlk.out.alloc _); have c5 : w9.cell? ⟨wr.heap.size, 1, none⟩ = some (.int .i64 y) := (by rw [← hw9, World.cell?_alloc_new]; rfl); have HF1 := Lib.hid f1; have HF2 := Lib.hid f2; clear f1 f2 hw9 hmx))
            go_region
            go_wp2
            go_roundw
            case rel => exact ⟨r + 1, by omega, by go_num, Lib.hid (Mor.drew HF2.out), Lib.hid (Blk.drew HF1.out)⟩
            case measure => simp [intOf]; omega
          · obtain rfl : v = 0 := by rw [HVe.out, if_neg hmx]
            go_wp2_with (first
              | (go_at_call 75; (with_reducible refine (HBS'.out).mono ?_); rintro e w9 ⟨b, rfl, hw9⟩; obtain ⟨c4, hfz, f1, f2⟩ := HF.out w9 (hw9 ▸ HM2.out.alloc) (hw9 ▸ HBlk.out.alloc _); have c5 : w9.cell? ⟨wr.heap.size, 1, none⟩ = some (.int .i64 y) := (by rw [← hw9, World.cell?_alloc_new]; rfl); have HF1 := Lib.hid f1; have HF2 := Lib.hid f2; clear f1 f2 hw9 hmx))
            go_region
            go_wp2
            go_roundw
            case rel => exact ⟨r + 1, by omega, by go_num, Lib.hid (Mor.drew HF2.out), Lib.hid (Blk.drew HF1.out)⟩
            case measure => simp [intOf]; omega
        · obtain rfl : r = n := by omega
          go_wp2
          go_returns
          exact ⟨g, by rw [HM0.out, ← HPm.out] <;> rfl, HM.out.trans' HM2.out, HBlk.out.row, by rw [HGe.out]; exact HWr.out⟩

end Go.Proofs.YtahegjhjonodlaaDoor
