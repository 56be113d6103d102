/- The walk of acct.Check. -/
import Derived.Test.YtohpibjjlfpaaaaGreatDoorPBookOwnZ1
import Derived.Test.YtohpibjjlfpaaaaGreatDoorPBookOwnZ2
import Derived.Test.YtohpibjjlfpaaaaGreatDoorPBookOwnZ3
import Derived.Test.YtohpibjjlfpaaaaGreatDoorPBookOwnZ4
import Derived.Test.YtohpibjjlfpaaaaGreatDoorRows
import Derived.BigQuiet
import Derived.DataElems
import Derived.Deep.LoopGhost
import Derived.Deep.QuietTactic
import Derived.Handy
import Derived.Laws.Cover1
import Derived.Lib.Hide
import Derived.OpenShut
import Derived.Outline
import Derived.PlainAid
import Derived.ProofKit
import Derived.RegionTactic
import Derived.Shelf.Abstract
import Derived.WalkKit
namespace Go.Proofs.YtohpibjjlfpaaaaGreatDoor
open Go.ChangeShapes Go.WideShapes Go.ChangeAt Go.RowKit Go.PlainAid
set_option linter.unusedVariables false
set_option maxRecDepth 100000

/-- one code ahead of another one -/
def ltB (a b : ByteArray) : Bool := Op.bytesLess a.toList b.toList
/-- what is wrong with the account i -/
def acAt (xs : List Ln) (i : Nat) : Int :=
  if codeB (cd xs i) = false then 3 else if am xs i < 0 ∨ 4 < am xs i then 1 else if 0 < i ∧ ltB (cd xs (i - 1)) (cd xs i) = false then 3 else 0
def acUp (xs : List Ln) : Nat → Int
  | 0 => 0
  | k + 1 => if acUp xs k ≠ 0 then acUp xs k else acAt xs k
theorem acUp_bad {xs : List Ln} {k n : Nat} (h : acUp xs k = 0) (hb : acAt xs k ≠ 0) (hk : k < n) : acUp xs n = acAt xs k := by
  induction n with
  | zero => omega
  | succ n ih =>
    by_cases e : k = n
    · subst e
      show (if acUp xs k ≠ 0 then acUp xs k else acAt xs k) = _
      rw [if_neg (by simp [h])]
    · show (if acUp xs n ≠ 0 then acUp xs n else acAt xs n) = _
      rw [ih (by omega), if_pos hb]
theorem acUp_ok {xs : List Ln} {k : Nat} (h : acUp xs k = 0) (hb : acAt xs k = 0) : acUp xs (k + 1) = 0 := by
  show (if acUp xs k ≠ 0 then acUp xs k else acAt xs k) = 0
  rw [if_neg (by simp [h]), hb]
theorem acUp_at {xs : List Ln} {k n : Nat} (h : acUp xs n = 0) (hk : k < n) : acAt xs k = 0 := by
  induction n with
  | zero => omega
  | succ n ih =>
    have h' : (if acUp xs n ≠ 0 then acUp xs n else acAt xs n) = 0 := h
    by_cases e : acUp xs n = 0
    · rw [if_neg (by simp [e])] at h'
      by_cases e2 : k = n
      · subst e2; exact h'
      · exact ih e (by omega)
    · rw [if_pos e] at h'; exact absurd h' e
/-- what is wrong with accounts -/
def acc (xs : List Ln) : Int := if 24 < xs.length then 2 else acUp xs xs.length

set_option maxRecDepth 100000 in
set_option maxHeartbeats 3200000 in
theorem acct_any (A : Option Addr) (n cap : Nat) (xs : List Ln) (w : World) (hr : Si w A xs) (hn : xs.length = n) (hml : n ≤ maxLen) (hs : ∀ i, i < n → (cd xs i).size ≤ maxLen) :
    Calls Tryz.prog 39 #[.slice A n cap] w fun e w' => e = .returned (.int .i64 (acc xs)) ∧ Mor w w' := by
  unfold maxLen at hml
  have HR := Lib.hid hr
  have HN := Lib.hid hn
  have HS := Lib.hid hs
  clear hr hs
  by_cases h12 : 24 < n
  · have HL := Lib.hid (show acc xs = 2 by unfold acc; rw [hn, if_pos h12])
    clear hn
    go_enter Tryz.func39, Tryz.ntmps39
    go_wp2
    go_ret
    exact ⟨by rw [HL.out] <;> rfl, Mor.refl _⟩
  · have HL := Lib.hid (show acc xs = acUp xs n by unfold acc; rw [hn, if_neg h12])
    have h12' : n ≤ 24 := by omega
    clear hn h12
    go_enter Tryz.func39, Tryz.ntmps39
    go_wp2
    go_loopw [10] (fun i wr => ∃ k : Nat, k ≤ n ∧ i = .int .i64 k ∧ Hid (acUp xs k = 0) ∧ Hid (Mor w wr)) (fun i _ => n - (intOf i).toNat)
    case atStart => exact ⟨0, Nat.zero_le _, rfl, Lib.hid rfl, Lib.hid (Mor.refl _)⟩
    case round =>
      obtain ⟨k, hk, rfl, HU, HM⟩ := hrel
      by_cases hlt : k < n
      · have hki : (k : Int) < (n : Int) := by omega
        have hk0 : (0 : Int) ≤ (k : Int) := by omega
        obtain ⟨x, hA, hxb, c1, c2⟩ := (HR.out.mor HM.out).at_ k (by have := HN.out; omega)
        subst hA
        have HCo := Lib.hid (fun w => code_any (cd xs k) w (HS.out k hlt))
        have HBad := Lib.hid (fun h : acAt xs k ≠ 0 => show acc xs = acAt xs k by rw [HL.out, acUp_bad HU.out h hlt])
        have HAt := Lib.hid (show acAt xs k = if codeB (cd xs k) = false then 3 else if am xs k < 0 ∨ 4 < am xs k then 1 else if 0 < k ∧ ltB (cd xs (k - 1)) (cd xs k) = false then 3 else 0 from rfl)
        have HOk := Lib.hid (fun h : acAt xs k = 0 => acUp_ok HU.out h)
        obtain ⟨s', hs'⟩ : ∃ s', cd xs (k - 1) = s' := ⟨_, rfl⟩
        have HP := Lib.hid (fun h : 0 < k => show (wr.alloc (.cells #[.string (cd xs k), .int .i64 (am xs k)] 58)).cell? (x.add ((k - 1) * 2)) = some (.string s') from by
          obtain ⟨y, hA, _, d1, _⟩ := ((HR.out.mor HM.out).mor (Mor.refl _).alloc).at_ (k - 1) (by have := HN.out; omega)
          injection hA with hA
          subst hA
          rw [d1, hs'])
        rw [hs'] at HAt
        clear hs'
        generalize cd xs k = s at *
        generalize am xs k = a at *
        cases hcb : codeB s
        · rw [hcb] at HCo HAt
          have HF := Lib.hid (show acc xs = 3 by
            have e : acAt xs k = 3 := by rw [HAt.out]; rfl
            rw [HBad.out (by omega), e])
          clear hcb
          go_wp2_with ((go_at_call 64; (with_reducible refine (HCo.out _).mono ?_); rintro e w1 ⟨rfl, rfl⟩))
          go_ret
          exact ⟨by rw [HF.out] <;> rfl, HM.out.alloc⟩
        · rw [hcb] at HCo HAt
          clear hcb
          have hcase : a < 0 ∨ 4 < a ∨ (0 ≤ a ∧ a ≤ 4) := by omega
          rcases hcase with ha | ha | ⟨a1, a2⟩
          · have HF := Lib.hid (show acc xs = 1 by
              have e : acAt xs k = 1 := by rw [HAt.out, if_neg (by simp), if_pos (.inl ha)]
              rw [HBad.out (by omega), e])
            go_wp2_with ((go_at_call 64; (with_reducible refine (HCo.out _).mono ?_); rintro e w1 ⟨rfl, rfl⟩))
            go_ret
            exact ⟨by rw [HF.out] <;> rfl, HM.out.alloc⟩
          · have HF := Lib.hid (show acc xs = 1 by
              have e : acAt xs k = 1 := by rw [HAt.out, if_neg (by simp), if_pos (.inr ha)]
              rw [HBad.out (by omega), e])
            go_wp2_with ((go_at_call 64; (with_reducible refine (HCo.out _).mono ?_); rintro e w1 ⟨rfl, rfl⟩))
            go_ret
            exact ⟨by rw [HF.out] <;> rfl, HM.out.alloc⟩
          · have HAt2 := Lib.hid (show acAt xs k = if 0 < k ∧ ltB s' s = false then 3 else 0 by rw [HAt.out, if_neg (by simp), if_neg (by omega)])
            by_cases hk1 : 0 < k
            · obtain ⟨j, rfl⟩ : ∃ j, k = j + 1 := ⟨k - 1, by omega⟩
              have c3 := HP.out hk1
              simp only [Nat.add_sub_cancel] at c3
              have hjn : (0 : Int) ≤ (j : Int) := by omega
              have kw1 : IntKind.i64.wrap (j : Int) = (j : Int) := IntWalk.i64_in _ (by omega)
              have kw2 : IntKind.i64.wrap ((j : Int) + 1 - 1) = (j : Int) := by rw [show (j : Int) + 1 - 1 = j by omega]; exact kw1
              have hjn2 : (j : Int) < (n : Int) := by omega
              cases hlt2 : ltB s' s
              · have HF := Lib.hid (show acc xs = 3 by
                  have e : acAt xs (j + 1) = 3 := by rw [HAt2.out, if_pos ⟨hk1, hlt2⟩]
                  rw [HBad.out (by omega), e])
                have hl : Op.bytesLess s'.toList s.toList = false := hlt2
                clear hlt2
                go_wp2_with ((go_at_call 64; (with_reducible refine (HCo.out _).mono ?_); rintro e w1 ⟨rfl, rfl⟩))
                go_quiet (fail)
                go_wp2_with fail
                go_ret
                exact ⟨by rw [HF.out] <;> rfl, (HM.out.alloc).drewN⟩
              · have HG := Lib.hid (HOk.out (by rw [HAt2.out, if_neg (by simp [hlt2])]))
                have hl : Op.bytesLess s'.toList s.toList = true := hlt2
                clear hlt2
                go_wp2_with ((go_at_call 64; (with_reducible refine (HCo.out _).mono ?_); rintro e w1 ⟨rfl, rfl⟩))
                go_quiet (fail)
                go_wp2_with fail
                go_roundw
                case rel => exact ⟨j + 1 + 1, by omega, by go_num, HG, Lib.hid (HM.out.alloc).drewN⟩
                case measure => simp [intOf]; omega
            · have hk2 : k = 0 := by omega
              subst hk2
              simp [Addr.add] at c1 c2
              have HG := Lib.hid (HOk.out (by rw [HAt2.out, if_neg (by omega)]))
              go_wp2_with ((go_at_call 64; (with_reducible refine (HCo.out _).mono ?_); rintro e w1 ⟨rfl, rfl⟩))
              go_quiet (fail)
              go_wp2_with fail
              go_roundw
              case rel => exact ⟨0 + 1, by omega, by go_num, HG, Lib.hid (HM.out.alloc).drewN⟩
              case measure => simp [intOf]; omega
      · obtain rfl : k = n := by omega
        go_wp2
        go_ret
        exact ⟨by rw [HL.out, HU.out] <;> rfl, HM.out⟩

end Go.Proofs.YtohpibjjlfpaaaaGreatDoor
