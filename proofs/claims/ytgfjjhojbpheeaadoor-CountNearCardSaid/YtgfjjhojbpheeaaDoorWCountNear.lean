/- The walk of talkeep.CountNear. -/
import Derived.Test.YtgfjjhojbpheeaaDoorCalK
import Derived.Test.YtgfjjhojbpheeaaDoorCalO
namespace Go.Proofs.YtgfjjhojbpheeaaDoor.countNear
open Go.ChangeShapes Go.WideShapes Go.ChangeAt Go.RowKit
set_option linter.unusedVariables false

set_option maxRecDepth 100000 in
set_option maxHeartbeats 6400000 in
theorem countNear_walk (w : World) (ht : Tab w) (a0 : Int) (wa0 : (Lit.int .i64 a0).wf = true) (a1 : Int) (wa1 : (Lit.int .i64 a1).wf = true) :
    Calls Tryd.prog 12 #[.int .i64 a0, .int .i64 a1] w fun e w' => e = .returned (.bool true) ∧ Below w.heap.size w w' := by
  clear wa0 wa1
  have hw0 := ht.1
  have HT := Lib.hid ht
  clear ht
  have N0 := wi_lo a0 200000 (by omega)
  have N9 := wi_hi a0 200000 (by omega)
  have HD := Lib.hid (fun w => within_any a0 200000 w (by omega) (by omega))
  generalize wi a0 200000 = N at *
  have q0 := wi_lo a1 200 (by omega)
  have q9 := wi_hi a1 200 (by omega)
  have HQ := Lib.hid (fun w => within_any a1 200 w (by omega) (by omega))
  generalize wi a1 200 = q at *
  have HB := Lib.hid (fun w h => between_yes 2 0 31 w (by omega) (by omega) (by omega) (by omega) (by omega) h)
  rw [show cnt 2 0 31 = 30 from eu0_31, show den 2 = 360 from rfl] at HB
  have N9' : N ≤ 292193 := by omega
  have HN := Lib.hid (fun w h => date_yes N w N0 N9' h)
  obtain ⟨E, hE⟩ : ∃ E, (if 28 < dm N then 28 else dm N) = E := ⟨_, rfl⟩
  have hN := isD_of N0 N9'
  have e1 : 1 ≤ E := by rw [← hE]; have := hN.d0; split <;> omega
  have e2 : E ≤ 28 := by rw [← hE]; split <;> omega
  have hl := fun k => (lk_bd k).1
  have hK : IsD (fk (dk N) + E - 1) (dk N) E := isD_mk hN.k0 hN.k1 e1 (by have := hl (dk N); omega)
  have hNE := hN.eq
  have hEN : E ≤ dm N := by rw [← hE]; split <;> omega
  have hKN : fk (dk N) + E - 1 ≤ N := by omega
  obtain ⟨⟨y1, y2, m1, m2, -, -⟩, -, -⟩ := ymd N0 N9'
  have HO := Lib.hid (fun w h => ofday_yes (yr N) (mo N) E w ⟨y1, y2, m1, m2, e1, by have := (mlen_bd (y := yr N) m1 m2).1; omega⟩ h)
  rw [show fst (yr N) (mo N) = fk (dk N) from rfl] at HO
  obtain ⟨k, hk⟩ : ∃ k, fk (dk N) + E - 1 = k := ⟨_, rfl⟩
  rw [hk] at hK HO hKN
  have hcut : ∀ n j, IsD n j E → ∀ i, cut n i = E := fun n j h i => by unfold cut; rw [h.dm, if_neg (by have := hl i; omega)]
  have hdk := hK.dk
  have hk0 := hK.k0
  have hk9 := hK.k1
  obtain ⟨kb0, kb9⟩ := hK.bd
  have hkx : dk N + 12 * q < 9600 := by
    rcases Int.lt_or_le (dk N) 6600 with h | h
    · omega
    · have h1 := fk_mono h
      have h4 : fk 6600 = 200884 := by decide
      have := hN.d0
      omega
  have HX := Lib.hid (fun w h => add_yes k (12 * q) w kb0 kb9 (by omega) (by omega) (by omega) (by omega) h)
  have hX := ad_isD (m := 12 * q) kb0 kb9 (by omega) (by omega)
  rw [hcut k _ hK, hdk] at hX
  have hle : k ≤ ad k (12 * q) := by
    have h1 := ad_mono2 (n := k) (m := 0) (m' := 12 * q) kb0 kb9 (by omega) (by omega) (by omega)
    rw [ad_zero kb0 kb9] at h1; exact h1
  have H1 := Lib.hid (fun w h => between_yes 2 k (ad k (12 * q)) w (by omega) (by omega) kb0 hX.bd.2 hle h)
  rw [show cnt 2 k (ad k (12 * q)) = 360 * q by rw [show cnt 2 k (ad k (12 * q)) = 30 * (12 * q) from eu_months hK hX]; omega, show den 2 = 360 from rfl] at H1
  have H2 := Lib.hid (fun w h => between_yes 1 k (ad k (12 * q)) w (by omega) (by omega) kb0 hX.bd.2 hle h)
  rw [show cnt 1 k (ad k (12 * q)) = ad k (12 * q) - k from rfl, show den 1 = 365 from rfl] at H2
  obtain ⟨g1, g2⟩ := fk_years (k := dk N) (q := q) hk0 q0
  have hxe := hX.eq
  have hke := hK.eq
  have hq1 : 365 * q ≤ ad k (12 * q) - k := by omega
  have hq2 : ad k (12 * q) - k ≤ 366 * q := by omega
  have xb := hX.bd
  obtain ⟨x0, x9⟩ := xb
  clear hX hcut hK hdk hk0 hk9 hk hl hN hNE hKN hEN hxe hke g1 g2 hkx
  generalize ad k (12 * q) = X at *
  generalize yr N = Y at *
  generalize mo N = M at *
  generalize dm N = D at *
  go_enter Tryd.func12, Tryd.ntmps12
  go_wp2_with (first | (go_at_call 25; (with_reducible refine (HB.out _ (by repeat (first | exact HT.out | apply Tab.alloc | apply Tab.more | apply Tab.drewN | apply Tab.drew | (refine Tab.set ?_ (by omega))))).mono ?_); rintro e w1 ⟨rfl, bs, k, rfl⟩) | (go_at_call 20; (with_reducible refine (HD.out _).mono ?_); rintro e w1 ⟨rfl, rfl⟩) | (go_at_call 20; (with_reducible refine (HQ.out _).mono ?_); rintro e w1 ⟨rfl, rfl⟩) | (go_at_call 17; (with_reducible refine (HN.out _ (by repeat (first | exact HT.out | apply Tab.alloc | apply Tab.more | apply Tab.drewN | apply Tab.drew | (refine Tab.set ?_ (by omega))))).mono ?_); rintro e w1 ⟨rfl, bs, k, rfl⟩) | (go_at_call 19; (with_reducible refine (HO.out _ (by repeat (first | exact HT.out | apply Tab.alloc | apply Tab.more | apply Tab.drewN | apply Tab.drew | (refine Tab.set ?_ (by omega))))).mono ?_); rintro e w1 ⟨rfl, bs, k, rfl⟩) | (go_at_call 22; (with_reducible refine (HX.out _ (by repeat (first | exact HT.out | apply Tab.alloc | apply Tab.more | apply Tab.drewN | apply Tab.drew | (refine Tab.set ?_ (by omega))))).mono ?_); rintro e w1 ⟨rfl, bs, k, rfl⟩) | (go_at_call 25; (with_reducible refine (H1.out _ (by repeat (first | exact HT.out | apply Tab.alloc | apply Tab.more | apply Tab.drewN | apply Tab.drew | (refine Tab.set ?_ (by omega))))).mono ?_); rintro e w1 ⟨rfl, bs, k, rfl⟩) | (go_at_call 25; (with_reducible refine (H2.out _ (by repeat (first | exact HT.out | apply Tab.alloc | apply Tab.more | apply Tab.drewN | apply Tab.drew | (refine Tab.set ?_ (by omega))))).mono ?_); rintro e w1 ⟨rfl, bs, k, rfl⟩))
  go_ret
  exact ⟨by first | rfl | (refine ret_b ?_; first | (simp; done) | (simp; omega)), Mor.below (by repeat (first | exact Mor.refl _ | apply Mor.alloc | apply Mor.more | apply Mor.drewN | apply Mor.drew))⟩

end Go.Proofs.YtgfjjhojbpheeaaDoor.countNear
