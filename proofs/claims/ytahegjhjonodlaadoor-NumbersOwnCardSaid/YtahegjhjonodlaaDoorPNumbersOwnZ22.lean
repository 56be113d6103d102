/- The walks of cal.Of, Date, Weekday, Last, Add. -/
import Derived.Test.YtahegjhjonodlaaDoorPNumbersOwnZ1
import Derived.Test.YtahegjhjonodlaaDoorPNumbersOwnZ3
import Derived.Test.YtahegjhjonodlaaDoorPNumbersOwnZ6
import Derived.Test.YtahegjhjonodlaaDoorPNumbersOwnZ7
import Derived.Test.YtahegjhjonodlaaDoorPNumbersOwnZ21
import Derived.Test.YtahegjhjonodlaaDoorRows
import Derived.BigQuiet
import Derived.Deep.QuietTactic
import Derived.Deep.RegionWith
import Derived.Handy
import Derived.Lib.Hide
import Derived.Lib.LaidTab
import Derived.OpenShut
import Derived.Outline
import Derived.OwnWalk
import Derived.ProofKit
import Derived.RegionTactic
import Derived.WalkKit
namespace Go.Proofs.YtahegjhjonodlaaDoor
open Go.ChangeShapes Go.WideShapes Go.ChangeAt Go.RowKit
set_option linter.unusedVariables false
set_option maxRecDepth 100000

/-- is it a date? -/
def okD (y m d : Int) : Prop := 1600 ≤ y ∧ y ≤ 2399 ∧ 1 ≤ m ∧ m ≤ 12 ∧ 1 ≤ d ∧ d ≤ mlen y m
theorem length_int (y m : Int) (w : World) (h1 : 1600 ≤ y) (h2 : y ≤ 2401) (m1 : 1 ≤ m) (m2 : m ≤ 12) (ht : Tab w) :
    Calls Tryd.prog 82 #[.int .i64 y, .int .i64 m] w fun e w' => e = .returned (.int .i64 (mlen y m)) ∧ w = w' := by
  obtain ⟨k, rfl⟩ := Int.eq_ofNat_of_zero_le (show 0 ≤ m by omega)
  exact length_any y k w h1 h2 (by omega) (by omega) ht

theorem ymd {n : Int} (h0 : 0 ≤ n) (h9 : n ≤ 292193) : okD (yr n) (mo n) (dm n) ∧ 12 * (yr n - 1600) + mo n - 1 = dk n ∧ n = fst (yr n) (mo n) + dm n - 1 := by
  have h := isD_of h0 h9
  have := h.k0; have := h.k1
  refine ⟨⟨by unfold yr; omega, by unfold yr; omega, by unfold mo; omega, by unfold mo; omega, h.d0, h.d1⟩, by unfold yr mo; omega, h.eq⟩
theorem dec_is {n : Int} (h0 : 0 ≤ n) (h9 : n ≤ 292193) : decide (0 ≤ n ∧ n ≤ 292193) = true := by simp [h0, h9]

/-- the last day of a day's month -/
noncomputable def la (n : Int) : Int := fk (dk n) + lk (dk n) - 1
set_option maxHeartbeats 1600000 in
theorem last_yes (n : Int) (w : World) (h0 : 0 ≤ n) (h9 : n ≤ 292193) (ht : Tab w) :
    Calls Tryd.prog 61 #[.int .i64 n] w fun e w' => e = .returned (.tuple #[.int .i64 (la n), .int .i64 0]) ∧ Mor w w' := by
  have HT := Lib.hid ht
  clear ht
  have HI := Lib.hid (fun w => is_any n w)
  rw [dec_is h0 h9] at HI
  have HP := Lib.hid (fun w h => calpl_any n w h0 h9 h)
  obtain ⟨⟨y1, y2, m1, m2, d1, d2⟩, -, -⟩ := ymd h0 h9
  have ⟨l1, l2⟩ := mlen_bd (y := yr n) m1 m2
  have HL := Lib.hid (fun w h => length_int (yr n) (mo n) w y1 (by omega) m1 m2 h)
  have HO := Lib.hid (fun w h => calof_any (yr n) (mo n) (mlen (yr n) (mo n)) w y1 (by omega) m1 m2 (by omega) (by omega) h)
  have HE := Lib.hid (show la n = fst (yr n) (mo n) + mlen (yr n) (mo n) - 1 from rfl)
  generalize mlen (yr n) (mo n) = L at *
  generalize fst (yr n) (mo n) = F at *
  generalize yr n = Y at *
  generalize mo n = M at *
  generalize dm n = D at *
  generalize la n = LA at *
  go_enter Tryd.func61, Tryd.ntmps61
  go_wp2_with (first | (go_at_call 74; (with_reducible refine (HI.out _).mono ?_); rintro e w1 ⟨rfl, rfl⟩) | (go_at_call 81; (with_reducible refine (HP.out _ (by repeat (first | exact HT.out | apply Tab.alloc | apply Tab.more | apply Tab.drewN | apply Tab.drew | (refine Tab.set ?_ (by omega))))).mono ?_); rintro e w1 ⟨rfl, bs, k, rfl⟩) | (go_at_call 82; (with_reducible refine (HL.out _ (by repeat (first | exact HT.out | apply Tab.alloc | apply Tab.more | apply Tab.drewN | apply Tab.drew | (refine Tab.set ?_ (by omega))))).mono ?_); rintro e w1 ⟨rfl, rfl⟩) | (go_at_call 83; (with_reducible refine (HO.out _ (by repeat (first | exact HT.out | apply Tab.alloc | apply Tab.more | apply Tab.drewN | apply Tab.drew | (refine Tab.set ?_ (by omega))))).mono ?_); rintro e w1 ⟨rfl, bs, k, rfl⟩))
  go_returns
  exact ⟨by rw [HE.out]; rfl, (by repeat (first | exact Mor.refl _ | apply Mor.alloc | apply Mor.more | apply Mor.drewN | apply Mor.drew))⟩

end Go.Proofs.YtahegjhjonodlaaDoor

/- The plain law of months: la, ad, mos. -/
namespace Go.Proofs.YtahegjhjonodlaaDoor
set_option linter.unusedVariables false
set_option maxRecDepth 100000

theorem la_isD {n : Int} (h0 : 0 ≤ n) (h9 : n ≤ 292193) : IsD (la n) (dk n) (lk (dk n)) := by
  have h := isD_of h0 h9
  exact isD_mk h.k0 h.k1 (by have := lk_bd (dk n); omega) (Int.le_refl _)
theorem la_facts {n : Int} (h0 : 0 ≤ n) (h9 : n ≤ 292193) : n ≤ la n ∧ la n ≤ 292193 ∧ la (la n) = la n ∧ yr (la n) = yr n ∧ mo (la n) = mo n := by
  have h := la_isD h0 h9
  have hn := isD_of h0 h9
  refine ⟨by have := hn.eq; have := hn.d1; unfold la; omega, h.bd.2, ?_, ?_, ?_⟩
  · show fk (dk (la n)) + lk (dk (la n)) - 1 = la n
    rw [h.dk]; rfl
  · unfold yr; rw [h.dk]
  · unfold mo; rw [h.dk]
theorem le_dk {n n' : Int} (h0 : 0 ≤ n) (h9 : n' ≤ 292193) (h : n ≤ n') : dk n ≤ dk n' := by
  have a := isD_of h0 (by omega); have b := isD_of (n := n') (by omega) h9
  rcases (a.le b).1 h with h | h <;> omega
/- days known by number -/
end Go.Proofs.YtahegjhjonodlaaDoor
