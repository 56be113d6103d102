/- The walk of age.Ages. -/
import Derived.Test.YtphkckonnogjmaaAgeA
namespace Go.Proofs.Ytphkckonnogjmaa
open Go.ChangeShapes Go.WideShapes Go.ChangeAt Go.RowKit
set_option linter.unusedVariables false

theorem itc_zero {xs : List Pr} (h : itc xs = 0) : xs.length ≤ 40 ∧ itOk xs xs.length = true := by
  unfold itc at h
  split at h
  · omega
  · split at h
    · exact ⟨by omega, by assumption⟩
    · omega
theorem agec_zero {xs : List Pr} {t : Int} {bs : List Int} (h : agec xs t bs = 0) : itc xs = 0 ∧ 0 ≤ t ∧ t ≤ 292193 ∧ bs.length ≤ 40 ∧ bdUp bs bs.length = 0 := by
  unfold agec at h
  split at h
  · omega
  · split at h
    · omega
    · split at h
      · omega
      · exact ⟨by omega, by omega, by omega, by omega, h⟩
theorem bdAt_zero {bs : List Int} {i : Nat} (h : bdAt bs i = 0) : 0 ≤ ei bs i ∧ ei bs i ≤ 292193 ∧ (0 < i → ei bs (i - 1) < ei bs i) := by
  unfold bdAt at h
  split at h
  · omega
  · split at h
    · omega
    · rename_i h1 h2
      refine ⟨by omega, by omega, fun h3 => ?_⟩
      by_cases h4 : ei bs (i - 1) < ei bs i
      · exact h4
      · exact absurd ⟨h3, by omega⟩ h2
/-- no bucket holds more than all -/
theorem ag_bd {xs : List Pr} {t : Int} {bs : List Int} {j : Nat} (h : ∀ k, k < j → 1 ≤ py xs k ∧ py xs k ≤ 1000000000000) (i : Nat) : 0 ≤ ei (ag xs t bs j) i ∧ ei (ag xs t bs j) i ≤ 1000000000000 * j := by
  induction j generalizing i with
  | zero =>
    have : ei (ag xs t bs 0) i = 0 := by
      unfold ei ag
      rw [List.getD_eq_getElem?_getD, List.getElem?_replicate]; split <;> rfl
    rw [this]; simp
  | succ j ih =>
    have h1 := fun i => ih (fun k hk => h k (by omega)) i
    have h2 := h j (by omega)
    have h3 := h1 i
    have h4 := h1 (pos bs (aged xs t j))
    have : ei (ag xs t bs (j + 1)) i = ei (ag xs t bs j) i ∨ ei (ag xs t bs (j + 1)) i = ei (ag xs t bs j) (pos bs (aged xs t j)) + py xs j := by
      show ei ((ag xs t bs j).set _ _) i = _ ∨ ei ((ag xs t bs j).set _ _) i = _
      unfold ei
      rw [List.getD_eq_getElem?_getD, List.getElem?_set]
      split
      · split
        · exact .inr rfl
        · rename_i e h; subst e; left; rw [List.getD_eq_getElem?_getD, List.getElem?_eq_none (by omega)]
      · exact .inl (by rw [List.getD_eq_getElem?_getD])
    rcases this with e | e <;> rw [e] <;> omega
def AgPost (w : World) (xs : List Pr) (t : Int) (bs : List Int) (n : Nat) (e : Ending) (w' : World) : Prop :=
  ∃ g, e = .returned (.tuple #[.slice (some ⟨g, 0, none⟩) (bs.length + 1) (bs.length + 1), .int .i64 0]) ∧ Mor w w' ∧ Row w' g 0 (ag xs t bs n)
def AgNo (w : World) (c : Int) (e : Ending) (w' : World) : Prop := e = .returned (.tuple #[.slice none 0 0, .int .i64 c]) ∧ Mor w w'

set_option maxRecDepth 100000 in
set_option maxHeartbeats 3200000 in
theorem ages_no (A : Option Addr) (n cap : Nat) (xs : List Pr) (t : Int) (B : Option Addr) (m cap' : Nat) (bs : List Int) (w : World) (hr : Pi w A xs) (hn : xs.length = n) (hml : n ≤ maxLen) (hr' : Ri w B bs) (hm : bs.length = m) (hml' : m ≤ maxLen) (hc : agec xs t bs ≠ 0) :
    Calls Try.prog 15 #[.slice A n cap, .int .i64 t, .slice B m cap'] w (AgNo w (agec xs t bs)) := by
  have HC := Lib.hid (acheck_any A n cap xs w hr hn hml)
  have HI := Lib.hid (fun w => cis_any t w)
  have HR := Lib.hid hr'
  have HM0 := Lib.hid hm
  unfold maxLen at hml'
  clear hr hr'
  by_cases h1 : itc xs = 0
  · rw [h1] at HC
    by_cases h2 : t < 0 ∨ 292193 < t
    · rw [show (decide (0 ≤ t) && decide (t ≤ 292193)) = false by simp; omega] at HI
      have HF := Lib.hid (show agec xs t bs = 1 by unfold agec; rw [if_neg (by simp [h1]), if_pos h2])
      clear h1 h2 hc hm hn
      go_enter Try.func15, Try.ntmps15
      go_wp2_with (first
        | (go_at_call 29; (with_reducible refine (HC.out).mono ?_); rintro e w1 ⟨rfl, hM⟩)
        | (go_at_call 30; (with_reducible refine (HI.out _).mono ?_); rintro e w2 ⟨rfl, rfl⟩))
      go_returns
      exact ⟨by rw [HF.out] <;> rfl, hM⟩
    · rw [show (decide (0 ≤ t) && decide (t ≤ 292193)) = true by simp; omega] at HI
      by_cases h3 : 40 < m
      · have HF := Lib.hid (show agec xs t bs = 2 by unfold agec; rw [if_neg (by simp [h1]), if_neg h2, if_pos (by omega)])
        clear h1 h2 hc hm hn
        go_enter Try.func15, Try.ntmps15
        go_wp2_with (first
          | (go_at_call 29; (with_reducible refine (HC.out).mono ?_); rintro e w1 ⟨rfl, hM⟩)
          | (go_at_call 30; (with_reducible refine (HI.out _).mono ?_); rintro e w2 ⟨rfl, rfl⟩))
        go_returns
        exact ⟨by rw [HF.out] <;> rfl, hM⟩
      · have HF := Lib.hid (show agec xs t bs = bdUp bs m by unfold agec; rw [if_neg (by simp [h1]), if_neg h2, if_neg (by omega), hm])
        have HNZ := Lib.hid (show bdUp bs m ≠ 0 by rw [← HF.out]; exact hc)
        have h3' : m ≤ 40 := by omega
        clear h1 h2 hc hm hn h3
        go_enter Try.func15, Try.ntmps15
        go_wp2_with (first
          | (go_at_call 29; (with_reducible refine (HC.out).mono ?_); rintro e w1 ⟨rfl, hM⟩)
          | (go_at_call 30; (with_reducible refine (HI.out _).mono ?_); rintro e w2 ⟨rfl, rfl⟩))
        have HM1 := Lib.hid hM
        clear hM
        go_loopw [29] (fun i wr => ∃ k : Nat, k ≤ m ∧ i = .int .i64 k ∧ Hid (bdUp bs k = 0) ∧ Hid (Mor w wr)) (fun i _ => m - (intOf i).toNat)
        case atStart => exact ⟨0, Nat.zero_le _, rfl, Lib.hid rfl, HM1⟩
        case round =>
          obtain ⟨k, hk, rfl, HU, HM⟩ := hrel
          by_cases hlt : k < m
          · have hki : (k : Int) < (m : Int) := by omega
            have hk0 : (0 : Int) ≤ (k : Int) := by omega
            obtain ⟨x, hA, hxb, c1⟩ := (HR.out.mor HM.out).at_ k (by have := HM0.out; omega)
            rw [ei_getD] at c1
            have HBad := Lib.hid (fun h : bdAt bs k ≠ 0 => show agec xs t bs = bdAt bs k by rw [HF.out]; exact bdUp_bad HU.out h hlt)
            have HOk := Lib.hid (fun h : bdAt bs k = 0 => show bdUp bs (k + 1) = 0 from bdUp_ok HU.out h)
            have HAt := Lib.hid (show bdAt bs k = if ei bs k < 0 ∨ 292193 < ei bs k then 1 else if 0 < k ∧ ei bs k ≤ ei bs (k - 1) then 3 else 0 from rfl)
            by_cases hk1 : 0 < k
            · obtain ⟨x', hA', hxb', c2⟩ := (HR.out.mor HM.out).at_ (k - 1) (by have := HM0.out; omega)
              rw [ei_getD] at c2
              have e : x' = x := by rw [hA] at hA'; injection hA' with e; exact e.symm
              subst e
              subst hA
              clear hA' hxb'
              have hk2 : 0 < (k : Int) := by omega
              have ek : (k : Int) - 1 = ((k - 1 : Nat) : Int) := by omega
              have hk4 : ((k - 1 : Nat) : Int) < (m : Int) := by omega
              have hk5 : (0 : Int) ≤ ((k - 1 : Nat) : Int) := by omega
              generalize ei bs (k - 1) = u at *
              generalize ei bs k = v at *
              have hcase : v < 0 ∨ (0 ≤ v ∧ 292193 < v) ∨ (0 ≤ v ∧ v ≤ 292193 ∧ v ≤ u) ∨ (0 ≤ v ∧ v ≤ 292193 ∧ u < v) := by omega
              rcases hcase with h | h | h | h
              · have HE := Lib.hid (show agec xs t bs = 1 by
                  have e : bdAt bs k = 1 := by rw [HAt.out, if_pos (by omega)]
                  rw [HBad.out (by omega), e])
                go_wp2
                go_returns
                exact ⟨by rw [HE.out] <;> rfl, HM.out⟩
              · have HE := Lib.hid (show agec xs t bs = 1 by
                  have e : bdAt bs k = 1 := by rw [HAt.out, if_pos (by omega)]
                  rw [HBad.out (by omega), e])
                obtain ⟨h1, h2⟩ := h
                go_wp2
                go_returns
                exact ⟨by rw [HE.out] <;> rfl, HM.out⟩
              · have HE := Lib.hid (show agec xs t bs = 3 by
                  have e : bdAt bs k = 3 := by rw [HAt.out, if_neg (by omega), if_pos ⟨hk1, by omega⟩]
                  rw [HBad.out (by omega), e])
                obtain ⟨h1, h2, h3⟩ := h
                go_wp2
                go_returns
                exact ⟨by rw [HE.out] <;> rfl, HM.out⟩
              · have HE := Lib.hid (HOk.out (by rw [HAt.out, if_neg (by omega), if_neg (by omega)]))
                obtain ⟨h1, h2, h3⟩ := h
                go_wp2
                go_roundw
                case rel => exact ⟨k + 1, by omega, by go_num, HE, Lib.hid HM.out⟩
                case measure => simp [intOf]; omega
            · have hk2 : ¬ (0 < (k : Int)) := by omega
              have HK0 := Lib.hid (show k = 0 by omega)
              subst hA
              clear HAt
              have HAt := Lib.hid (show bdAt bs k = if ei bs k < 0 ∨ 292193 < ei bs k then 1 else 0 by
                unfold bdAt; split
                · rfl
                · rw [if_neg (by have := HK0.out; omega)])
              generalize ei bs k = v at *
              have hcase : v < 0 ∨ (0 ≤ v ∧ 292193 < v) ∨ (0 ≤ v ∧ v ≤ 292193) := by omega
              rcases hcase with h | h | h
              · have HE := Lib.hid (show agec xs t bs = 1 by
                  have e : bdAt bs k = 1 := by rw [HAt.out, if_pos (by omega)]
                  rw [HBad.out (by omega), e])
                go_wp2
                go_returns
                exact ⟨by rw [HE.out] <;> rfl, HM.out⟩
              · have HE := Lib.hid (show agec xs t bs = 1 by
                  have e : bdAt bs k = 1 := by rw [HAt.out, if_pos (by omega)]
                  rw [HBad.out (by omega), e])
                obtain ⟨h1, h2⟩ := h
                go_wp2
                go_returns
                exact ⟨by rw [HE.out] <;> rfl, HM.out⟩
              · have HE := Lib.hid (HOk.out (by rw [HAt.out, if_neg (by omega)]))
                obtain ⟨h1, h2⟩ := h
                go_wp2
                go_roundw
                case rel => exact ⟨k + 1, by omega, by go_num, HE, Lib.hid HM.out⟩
                case measure => simp [intOf]; omega
          · obtain rfl : k = m := by omega
            exact absurd HU.out HNZ.out
  · have HF := Lib.hid (show agec xs t bs = itc xs by unfold agec; rw [if_pos h1])
    have h1' : (itc xs == 0) = false := by simpa using h1
    generalize itc xs = c at *
    clear hc hm hn
    go_enter Try.func15, Try.ntmps15
    go_wp2_with (first
      | (go_at_call 29; (with_reducible refine (HC.out).mono ?_); rintro e w1 ⟨rfl, hM⟩))
    go_returns
    exact ⟨by rw [HF.out] <;> rfl, hM⟩

end Go.Proofs.Ytphkckonnogjmaa
