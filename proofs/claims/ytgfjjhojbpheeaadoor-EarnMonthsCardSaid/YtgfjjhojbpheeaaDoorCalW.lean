/- The walks of talkeep.day, talkeep.calBegun, cal.Months. -/
import Derived.Test.YtgfjjhojbpheeaaDoorCalP
namespace Go.Proofs.YtgfjjhojbpheeaaDoor
open Go.ChangeShapes Go.WideShapes Go.ChangeAt Go.RowKit
set_option linter.unusedVariables false

set_option maxHeartbeats 400000 in
theorem cday_any (n : Int) (w : World) : Calls Tryd.prog 16 #[.int .i64 n] w fun e w' => e = .returned (.int .i64 (wi n 292194)) ∧ w = w' := by
  go_enter Tryd.func16, Tryd.ntmps16
  go_wp2_with (go_at_call 20; refine (within_any _ _ _ (by omega) (by omega)).mono ?_; rintro e w1 ⟨rfl, rfl⟩)
  go_ret
  exact ⟨rfl, rfl⟩

set_option maxHeartbeats 1600000 in
theorem months_yes (a b : Int) (w : World) (h0 : 0 ≤ a) (h9 : b ≤ 292193) (h : a ≤ b) (ht : Tab w) :
    Calls Tryd.prog 23 #[.int .i64 a, .int .i64 b] w fun e w' => e = .returned (.tuple #[.int .i64 (mos a b), .int .i64 0]) ∧ Mor w w' := by
  have HT := Lib.hid ht
  clear ht
  have HI := Lib.hid (fun w => is_any a w)
  rw [dec_is h0 (by omega)] at HI
  have HJ := Lib.hid (fun w => is_any b w)
  rw [dec_is (by omega) h9] at HJ
  have HP := Lib.hid (fun w h => plain_any a w h0 (by omega) h)
  have HQ := Lib.hid (fun w h => plain_any b w (by omega) h9 h)
  have ka := isD_of (n := a) h0 (by omega)
  have kb := isD_of (n := b) (by omega) h9
  have hd := le_dk h0 h9 h
  have a0 := ka.k0; have b9 := kb.k1
  have HA := Lib.hid (fun w ht => add_yes a (dk b - dk a) w h0 (by omega) (by omega) (by omega) (by omega) (by omega) ht)
  have hx : 12 * (yr b - yr a) + mo b - mo a = dk b - dk a := by have := ym_dk a; have := ym_dk b; omega
  obtain ⟨⟨y1, y2, m1, m2, -, -⟩, -, -⟩ := ymd (n := a) h0 (by omega)
  obtain ⟨⟨y3, y4, m3, m4, -, -⟩, -, -⟩ := ymd (n := b) (by omega) h9
  clear ka kb
  obtain ⟨AD, hAD⟩ : ∃ AD, ad a (dk b - dk a) = AD := ⟨_, rfl⟩
  have HM := Lib.hid (show mos a b = if b < AD then dk b - dk a - 1 else dk b - dk a by unfold mos; rw [hAD])
  rw [hAD] at HA
  clear hAD
  generalize mos a b = MM at *
  obtain ⟨K, hK⟩ : ∃ K, dk b - dk a = K := ⟨_, rfl⟩
  rw [hK] at HA HM hx
  have hK0 : 0 ≤ K := by omega
  have hK9 : K < 9600 := by omega
  clear hK hd a0 b9
  generalize yr a = Ya at *
  generalize mo a = Ma at *
  generalize dm a = Da at *
  generalize yr b = Yb at *
  generalize mo b = Mb at *
  generalize dm b = Db at *
  rcases Int.lt_or_le b AD with hlt | hge
  · go_enter Tryd.func23, Tryd.ntmps23
    go_wp2_with (first | (go_at_call 30; (with_reducible refine (HI.out _).mono ?_); rintro e w1 ⟨rfl, rfl⟩) | (go_at_call 30; (with_reducible refine (HJ.out _).mono ?_); rintro e w1 ⟨rfl, rfl⟩) | (go_at_call 31; (with_reducible refine (HP.out _ (by repeat (first | exact HT.out | apply Tab.alloc | apply Tab.more | apply Tab.drewN | apply Tab.drew))).mono ?_); rintro e w1 ⟨rfl, bs, k, rfl⟩) | (go_at_call 31; (with_reducible refine (HQ.out _ (by repeat (first | exact HT.out | apply Tab.alloc | apply Tab.more | apply Tab.drewN | apply Tab.drew))).mono ?_); rintro e w1 ⟨rfl, bs, k, rfl⟩) | (go_at_call 22; (with_reducible refine (HA.out _ (by repeat (first | exact HT.out | apply Tab.alloc | apply Tab.more | apply Tab.drewN | apply Tab.drew))).mono ?_); rintro e w1 ⟨rfl, bs, k, rfl⟩))
    go_returns
    exact ⟨by rw [HM.out, if_pos hlt]; rfl, by repeat (first | exact Mor.refl _ | apply Mor.alloc | apply Mor.more | apply Mor.drewN | apply Mor.drew)⟩
  · go_enter Tryd.func23, Tryd.ntmps23
    go_wp2_with (first | (go_at_call 30; (with_reducible refine (HI.out _).mono ?_); rintro e w1 ⟨rfl, rfl⟩) | (go_at_call 30; (with_reducible refine (HJ.out _).mono ?_); rintro e w1 ⟨rfl, rfl⟩) | (go_at_call 31; (with_reducible refine (HP.out _ (by repeat (first | exact HT.out | apply Tab.alloc | apply Tab.more | apply Tab.drewN | apply Tab.drew))).mono ?_); rintro e w1 ⟨rfl, bs, k, rfl⟩) | (go_at_call 31; (with_reducible refine (HQ.out _ (by repeat (first | exact HT.out | apply Tab.alloc | apply Tab.more | apply Tab.drewN | apply Tab.drew))).mono ?_); rintro e w1 ⟨rfl, bs, k, rfl⟩) | (go_at_call 22; (with_reducible refine (HA.out _ (by repeat (first | exact HT.out | apply Tab.alloc | apply Tab.more | apply Tab.drewN | apply Tab.drew))).mono ?_); rintro e w1 ⟨rfl, bs, k, rfl⟩))
    go_returns
    exact ⟨by rw [HM.out, if_neg (by omega)]; rfl, by repeat (first | exact Mor.refl _ | apply Mor.alloc | apply Mor.more | apply Mor.drewN | apply Mor.drew)⟩

/-- whatever comes of an addition -/
theorem add_gen (n m : Int) (w : World) (h0 : 0 ≤ n) (h9 : n ≤ 292193) (m0 : -9600 ≤ m) (m9 : m ≤ 9600) (ht : Tab w) :
    Calls Tryd.prog 22 #[.int .i64 n, .int .i64 m] w fun e w' => ∃ v c : Int, e = .returned (.tuple #[.int .i64 v, .int .i64 c]) ∧ Mor w w' := by
  by_cases hk : dk n + m < 0 ∨ 9600 ≤ dk n + m
  · exact (add_far n m w h0 h9 m0 m9 hk ht).mono fun _ _ h => ⟨_, _, h⟩
  · exact (add_yes n m w h0 h9 m0 m9 (by omega) (by omega) ht).mono fun _ _ h => ⟨_, _, h⟩

end Go.Proofs.YtgfjjhojbpheeaaDoor
