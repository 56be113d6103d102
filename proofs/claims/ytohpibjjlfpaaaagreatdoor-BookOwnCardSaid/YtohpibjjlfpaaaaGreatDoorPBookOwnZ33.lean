/- The walks of cal.Of, Date, Weekday, Last, Add. -/
import Derived.Test.YtohpibjjlfpaaaaGreatDoorPBookOwnZ1
import Derived.Test.YtohpibjjlfpaaaaGreatDoorPBookOwnZ11
import Derived.Test.YtohpibjjlfpaaaaGreatDoorPBookOwnZ26
import Derived.Test.YtohpibjjlfpaaaaGreatDoorPBookOwnZ31
import Derived.Test.YtohpibjjlfpaaaaGreatDoorPBookOwnZ32
import Derived.Test.YtohpibjjlfpaaaaGreatDoorRows
import Derived.BigQuiet
import Derived.Deep.QuietTactic
import Derived.Deep.RegionWith
import Derived.Handy
import Derived.Lib.Hide
import Derived.Lib.LaidTab
import Derived.OpenShut
import Derived.Outline
import Derived.OwnWalk
import Derived.ProofKit
import Derived.RegionTactic
import Derived.WalkKit
namespace Go.Proofs.YtohpibjjlfpaaaaGreatDoor
open Go.ChangeShapes Go.WideShapes Go.ChangeAt Go.RowKit
set_option linter.unusedVariables false
set_option maxRecDepth 100000

/-- is it a date? -/
def okD (y m d : Int) : Prop := 1600 ≤ y ∧ y ≤ 2399 ∧ 1 ≤ m ∧ m ≤ 12 ∧ 1 ≤ d ∧ d ≤ mlen y m
theorem length_int (y m : Int) (w : World) (h1 : 1600 ≤ y) (h2 : y ≤ 2401) (m1 : 1 ≤ m) (m2 : m ≤ 12) (ht : Tab w) :
    Calls Tryz.prog 97 #[.int .i64 y, .int .i64 m] w fun e w' => e = .returned (.int .i64 (mlen y m)) ∧ w = w' := by
  obtain ⟨k, rfl⟩ := Int.eq_ofNat_of_zero_le (show 0 ≤ m by omega)
  exact length_any y k w h1 h2 (by omega) (by omega) ht

theorem ymd {n : Int} (h0 : 0 ≤ n) (h9 : n ≤ 292193) : okD (yr n) (mo n) (dm n) ∧ 12 * (yr n - 1600) + mo n - 1 = dk n ∧ n = fst (yr n) (mo n) + dm n - 1 := by
  have h := isD_of h0 h9
  have := h.k0; have := h.k1
  refine ⟨⟨by unfold yr; omega, by unfold yr; omega, by unfold mo; omega, by unfold mo; omega, h.d0, h.d1⟩, by unfold yr mo; omega, h.eq⟩
theorem dec_is {n : Int} (h0 : 0 ≤ n) (h9 : n ≤ 292193) : decide (0 ≤ n ∧ n ≤ 292193) = true := by simp [h0, h9]

/-- so many months later -/
noncomputable def ad (n m : Int) : Int := fk (dk n + m) + (if lk (dk n + m) < dm n then lk (dk n + m) else dm n) - 1
set_option maxHeartbeats 3200000 in
theorem add_yes (n m : Int) (w : World) (h0 : 0 ≤ n) (h9 : n ≤ 292193) (m0 : -9600 ≤ m) (m9 : m ≤ 9600) (k0 : 0 ≤ dk n + m) (k9 : dk n + m < 9600) (ht : Tab w) :
    Calls Tryz.prog 76 #[.int .i64 n, .int .i64 m] w fun e w' => e = .returned (.tuple #[.int .i64 (ad n m), .int .i64 0]) ∧ Mor w w' := by
  have HT := Lib.hid ht
  clear ht
  have HI := Lib.hid (fun w => is_any n w)
  rw [dec_is h0 h9] at HI
  have HP := Lib.hid (fun w h => calpl_any n w h0 h9 h)
  obtain ⟨⟨y1, y2, m1, m2, d1, d2⟩, hk, -⟩ := ymd h0 h9
  have ⟨l3, l4⟩ := mlen_bd (y := yr n) m1 m2
  obtain ⟨K, hK⟩ : ∃ K, dk n + m = K := ⟨_, rfl⟩
  rw [hK] at k0 k9
  have ⟨l1, l2⟩ := lk_bd K
  have HL := Lib.hid (fun w h => length_int (1600 + K / 12) (1 + K % 12) w (by omega) (by omega) (by omega) (by omega) h)
  rw [show mlen (1600 + K / 12) (1 + K % 12) = lk K from rfl] at HL
  have HO := Lib.hid (fun D w (d1 : 0 ≤ D) (d2 : D ≤ 400) h => calof_any (1600 + K / 12) (1 + K % 12) D w (by omega) (by omega) (by omega) (by omega) d1 d2 h)
  rw [show fst (1600 + K / 12) (1 + K % 12) = fk K from rfl] at HO
  have HE := Lib.hid (show ad n m = fk K + (if lk K < dm n then lk K else dm n) - 1 by unfold ad; rw [hK])
  have hk2 : 12 * (yr n - 1600) + mo n - 1 + m = K := by omega
  have d3 : dm n ≤ 31 := by omega
  clear d2 hk hK l3 l4
  generalize lk K = L at *
  generalize fk K = F at *
  generalize yr n = Y at *
  generalize mo n = M at *
  generalize dm n = D at *
  generalize ad n m = AD at *
  have HK := Lib.hid hk2
  by_cases hc : L < D
  · have HOl := Lib.hid (fun w h => HO.out L w (by omega) (by omega) h)
    have HR := Lib.hid (show AD = F + L - 1 by rw [HE.out, if_pos hc])
    clear HO HE
    go_enter Tryz.func76, Tryz.ntmps76
    go_wp2_with (first | (go_at_call 42; (with_reducible refine (HI.out _).mono ?_); rintro e w1 ⟨rfl, rfl⟩) | (go_at_call 96; (with_reducible refine (HP.out _ (by repeat (first | exact HT.out | apply Tab.alloc | apply Tab.more | apply Tab.drewN | apply Tab.drew | (refine Tab.set ?_ (by omega))))).mono ?_); rintro e w1 ⟨rfl, bs, k, rfl⟩))
    go_region_with ((go_at_call 97; (with_reducible refine (HL.out _ (by repeat (first | exact HT.out | apply Tab.alloc | apply Tab.more | apply Tab.drewN | apply Tab.drew | (refine Tab.set ?_ (by omega))))).mono ?_); rintro e w1 ⟨rfl, rfl⟩))
    all_goals (go_wp2_with (go_at_call 98; (with_reducible refine (HOl.out _ (by repeat (first | exact HT.out | apply Tab.alloc | apply Tab.more | apply Tab.drewN | apply Tab.drew | (refine Tab.set ?_ (by omega))))).mono ?_); rintro e w1 ⟨rfl, bs, k, rfl⟩))
    all_goals go_returns
    all_goals exact ⟨by rw [HR.out]; rfl, (by repeat (first | exact Mor.refl _ | apply Mor.alloc | apply Mor.more | apply Mor.drewN | apply Mor.drew))⟩
  · have HOl := Lib.hid (fun w h => HO.out D w (by omega) (by omega) h)
    have HR := Lib.hid (show AD = F + D - 1 by rw [HE.out, if_neg hc])
    clear HO HE
    go_enter Tryz.func76, Tryz.ntmps76
    go_wp2_with (first | (go_at_call 42; (with_reducible refine (HI.out _).mono ?_); rintro e w1 ⟨rfl, rfl⟩) | (go_at_call 96; (with_reducible refine (HP.out _ (by repeat (first | exact HT.out | apply Tab.alloc | apply Tab.more | apply Tab.drewN | apply Tab.drew | (refine Tab.set ?_ (by omega))))).mono ?_); rintro e w1 ⟨rfl, bs, k, rfl⟩))
    go_region_with ((go_at_call 97; (with_reducible refine (HL.out _ (by repeat (first | exact HT.out | apply Tab.alloc | apply Tab.more | apply Tab.drewN | apply Tab.drew | (refine Tab.set ?_ (by omega))))).mono ?_); rintro e w1 ⟨rfl, rfl⟩))
    all_goals (go_wp2_with (go_at_call 98; (with_reducible refine (HOl.out _ (by repeat (first | exact HT.out | apply Tab.alloc | apply Tab.more | apply Tab.drewN | apply Tab.drew | (refine Tab.set ?_ (by omega))))).mono ?_); rintro e w1 ⟨rfl, bs, k, rfl⟩))
    all_goals go_returns
    all_goals exact ⟨by rw [HR.out]; rfl, (by repeat (first | exact Mor.refl _ | apply Mor.alloc | apply Mor.more | apply Mor.drewN | apply Mor.drew))⟩

set_option maxHeartbeats 3200000 in
theorem add_far (n m : Int) (w : World) (h0 : 0 ≤ n) (h9 : n ≤ 292193) (m0 : -9600 ≤ m) (m9 : m ≤ 9600) (hk : dk n + m < 0 ∨ 9600 ≤ dk n + m) (ht : Tab w) :
    Calls Tryz.prog 76 #[.int .i64 n, .int .i64 m] w fun e w' => e = .returned (.tuple #[.int .i64 0, .int .i64 2]) ∧ Mor w w' := by
  have HT := Lib.hid ht
  clear ht
  have HI := Lib.hid (fun w => is_any n w)
  rw [dec_is h0 h9] at HI
  have HP := Lib.hid (fun w h => calpl_any n w h0 h9 h)
  obtain ⟨⟨y1, y2, m1, m2, d1, d2⟩, hd, -⟩ := ymd h0 h9
  have ⟨l3, l4⟩ := mlen_bd (y := yr n) m1 m2
  obtain ⟨K, hK⟩ : ∃ K, dk n + m = K := ⟨_, rfl⟩
  rw [hK] at hk
  have hk2 : 12 * (yr n - 1600) + mo n - 1 + m = K := by omega
  have d3 : dm n ≤ 31 := by omega
  clear d2 hd hK l3 l4
  generalize yr n = Y at *
  generalize mo n = M at *
  generalize dm n = D at *
  rcases hk with hk | hk
  all_goals
    go_enter Tryz.func76, Tryz.ntmps76
    go_wp2_with (first | (go_at_call 42; (with_reducible refine (HI.out _).mono ?_); rintro e w1 ⟨rfl, rfl⟩) | (go_at_call 96; (with_reducible refine (HP.out _ (by repeat (first | exact HT.out | apply Tab.alloc | apply Tab.more | apply Tab.drewN | apply Tab.drew | (refine Tab.set ?_ (by omega))))).mono ?_); rintro e w1 ⟨rfl, bs, k, rfl⟩))
    go_returns
    exact ⟨rfl, (by repeat (first | exact Mor.refl _ | apply Mor.alloc | apply Mor.more | apply Mor.drewN | apply Mor.drew))⟩

end Go.Proofs.YtohpibjjlfpaaaaGreatDoor

/- The plain law of months: la, ad, mos. -/
namespace Go.Proofs.YtohpibjjlfpaaaaGreatDoor
set_option linter.unusedVariables false
set_option maxRecDepth 100000

/-- the day of a month, cut at its end -/
noncomputable def cut (n k : Int) : Int := if lk k < dm n then lk k else dm n
theorem cut_bd {n k : Int} (h0 : 0 ≤ n) (h9 : n ≤ 292193) : 1 ≤ cut n k ∧ cut n k ≤ lk k ∧ cut n k ≤ dm n := by
  have h := isD_of h0 h9
  have := h.d0; have := lk_bd k
  unfold cut; split <;> omega
theorem ad_isD {n m : Int} (h0 : 0 ≤ n) (h9 : n ≤ 292193) (k0 : 0 ≤ dk n + m) (k9 : dk n + m < 9600) : IsD (ad n m) (dk n + m) (cut n (dk n + m)) := by
  have h := cut_bd (k := dk n + m) h0 h9
  exact isD_mk k0 k9 h.1 h.2.1
theorem ad_mono2 {n m m' : Int} (h0 : 0 ≤ n) (h9 : n ≤ 292193) (h : m ≤ m') (k0 : 0 ≤ dk n + m) (k9 : dk n + m' < 9600) : ad n m ≤ ad n m' := by
  refine ((ad_isD h0 h9 k0 (by omega)).le (ad_isD h0 h9 (by omega) k9)).2 ?_
  by_cases e : m = m'
  · subst e; right; exact ⟨rfl, Int.le_refl _⟩
  · left; omega
/- days known by number -/
theorem isD_num (k D : Int) (h0 : 0 ≤ k) (h1 : k < 9600) (d0 : 1 ≤ D) (d1 : D ≤ lk k) {n : Int} (hn : fk k + D - 1 = n) : IsD n k D := ⟨h0, h1, d0, d1, hn.symm⟩
end Go.Proofs.YtohpibjjlfpaaaaGreatDoor
