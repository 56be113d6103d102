/- The walk of talkeep.AgeSum. -/
import Derived.Test.YtphkckonnogjmaaAgeC
import Derived.Test.YtphkckonnogjmaaWithinA
import Derived.Deep.DeepCutAuto
import Derived.Deep.RegionWith
namespace Go.Proofs.Ytphkckonnogjmaa.ageSum
open Go.ChangeShapes Go.WideShapes Go.ChangeAt Go.RowKit
set_option linter.unusedVariables false

theorem beg_c : agec [(5, 7)] 15 [9, 30] = 0 := by decide
theorem beg_v : ag [(5, 7)] 15 [9, 30] 1 = [0, 7, 0] := by decide
theorem pi_lit {w : World} {b : Nat} {T : TypeId} (d a : Int) (hb : b = w.heap.size) : Pi (w.alloc (.cells #[.int .i64 d, .int .i64 a] T)) (some ⟨b, 0, none⟩) [(d, a)] := by
  subst hb
  refine .inr ⟨_, rfl, by show _ < (w.heap.push _).size; simp, fun i hi => ?_⟩
  obtain rfl : i = 0 := by simp at hi; omega
  rw [adds, World.cell?_alloc_new, World.cell?_alloc_new]
  exact ⟨rfl, rfl⟩

set_option maxRecDepth 100000 in
set_option maxHeartbeats 6400000 in
theorem ageSum_walk (w : World) (A : Option Addr) (len cap : Nat) (xs : List Pr) (hp : IsPr w A len cap xs) (t : Int) (wt : (Lit.int .i64 t).wf = true) (B : Option Addr) (m cap' : Nat) (zs : List Int) (hz : IsRow .i64 w B m cap' zs) (k : Int) (wk : (Lit.int .i64 k).wf = true) :
    Calls Try.prog 3 #[.slice A len cap, .int .i64 t, .slice B m cap', .int .i64 k] w fun e w' => e = .returned (.bool true) ∧ Below w.heap.size w w' := by
  have hmx := (Ri.of_isRow hz).2.2.2.1
  obtain ⟨hri, hlen, hcap, hmax, hwf, hnil⟩ := Ri.of_isRow hz
  generalize zs.take m = bs at *
  have HRP := Lib.hid hp.pi
  have HNP := Lib.hid hp.length
  have HMXP := Lib.hid (Nat.le_trans hp.le hp.max)
  have HRI := Lib.hid hri
  have HM := Lib.hid hlen
  have HMX := Lib.hid (Nat.le_trans hcap hmx)
  clear hp hri hz hwf hnil
  have HB0 := Lib.hid (fun A B w h1 h2 => ages_ok A 1 1 [(5, 7)] 15 B 2 2 [9, 30] w h1 rfl h2 rfl beg_c)
  by_cases hc : agec xs t bs = 0
  · obtain ⟨c1, c2, c3, c4, c5⟩ := agec_zero hc
    obtain ⟨c6, c7⟩ := itc_zero c1
    have l40 : len ≤ 40 := by have := HNP.out; omega
    have m40 : m ≤ 40 := by omega
    have HIt := Lib.hid (fun k (h : k < len) => itOk_at c7 (k := k) (by have := HNP.out; omega))
    have HA := Lib.hid (fun w h1 h2 => ages_ok A len cap xs t B m cap' bs w h1 HNP.out h2 HM.out hc)
    have HOw := Lib.hid (fun w h1 => owed_any A len cap xs w h1 HNP.out l40 (fun k h => (HIt.out k h).2.2))
    have hA : ∀ s, ∀ x ∈ ag xs s bs len, -1000000000000000 ≤ x ∧ x ≤ 1000000000000000 := fun s x hx => by
      obtain ⟨i, hi, rfl⟩ := List.getElem_of_mem hx
      have := ag_bd (xs := xs) (t := s) (bs := bs) (j := len) (fun k h => (HIt.out k h).2.2) i
      unfold ei at this
      rw [List.getD_eq_getElem?_getD, List.getElem?_eq_getElem hi] at this
      simp only [Option.getD_some] at this
      omega
    have HSu := Lib.hid (fun A k cap s w h1 (hk : k ≤ m + 1) => sum_ri A k cap ((ag xs s bs len).take k) w h1 (by rw [List.length_take, ag_len, HM.out]; omega) (fun x hx => hA s x (List.mem_of_mem_take hx)) (by omega))
    have HSa := Lib.hid (show ((ag xs t bs len).take (m + 1)).sum = owd xs len by rw [List.take_of_length_le (by rw [ag_len, HM.out]; exact Nat.le_refl _), ag_sum])
    have HLt := Lib.hid (fun k => show ((ag xs (t + 1) bs len).take k).sum ≤ ((ag xs t bs len).take k).sum by
      rw [ag_pre, ag_pre]; exact pre_later xs t bs k len fun i hi => by have := HIt.out i hi; omega)
    have W1 := wi_lo k ((m : Int) + 1 + 1) (by omega)
    have W2 := wi_hi k ((m : Int) + 1 + 1) (by omega)
    have HW := Lib.hid (fun w => within_any k ((m : Int) + 1 + 1) w (by omega) (by omega))
    generalize wi k ((m : Int) + 1 + 1) = K at *
    obtain ⟨q, rfl⟩ := Int.eq_ofNat_of_zero_le W1
    have q2 : q ≤ m + 1 := by omega
    by_cases ht : t = 292193
    · have ht' : (t == 292193) = true := by simpa using ht
      clear ht hc c1 c4 c5 c6 c7 hA hlen hmax hcap hmx W1 W2 wk HIt
      go_enter Try.func3, Try.ntmps3
      go_wp2_with fail
      refine (HB0.out _ _ _ ((pi_lit 5 7 rfl).mor (Mor.refl _).alloc) (Ri.of_row (row_lit [9, 30] (by simp) rfl))).mono ?_
      rintro e w1 ⟨g0, rfl, hm0, hr⟩
      have HM0 := Lib.hid (show Mor w w1 from Mor.trans (by repeat (first | exact Mor.refl _ | apply Mor.alloc)) hm0)
      rw [beg_v] at hr
      have HR := Lib.hid hr
      clear hm0 hr
      go_wp2_with fail
      refine (equal_yes _ _ _ _ _ _ 3 [0, 7, 0] _ (HR.out.alloc) (row_lit [0, 7, 0] (by simp) rfl) rfl (by omega)).mono ?_
      rintro e w2 ⟨rfl, m0, hw2⟩
      have HM2 := Lib.hid (show Mor w w2 by rw [hw2]; exact HM0.out.alloc.drewN)
      clear HR hw2 HM0
      have HAA := Lib.hid (HA.out _ (HRP.out.mor HM2.out) (HRI.out.mor HM2.out))
      go_wp2_with ((go_at_call 15; (with_reducible refine HAA.out.mono ?_); rintro e w3 ⟨g3, he, hm3, hr3⟩; rw [HM.out] at he; subst he))
      have HM3 := Lib.hid (HM2.out.trans' hm3)
      have HR3 := Lib.hid hr3
      clear hm3 hr3 HAA
      have HS3 := Lib.hid (HSu.out (some ⟨g3, 0, none⟩) (m + 1) (m + 1) t w3 (Ri.take (Ri.of_row HR3.out)) (by omega))
      have HO3 := Lib.hid (fun w' (h : Mor w3 w') => HOw.out w' (HRP.out.mor (HM3.out.trans' h)))
      rw [HSa.out] at HS3
      go_wp2_with fail
      refine HS3.out.mono ?_
      rintro e w4 ⟨rfl, rfl⟩
      go_wp2_with fail
      refine (HO3.out _ (Mor.refl _)).mono ?_
      rintro e w4 ⟨rfl, hm4⟩
      have HM4 := Lib.hid (HM3.out.trans' hm4)
      have HR4 := Lib.hid (HR3.out.mor hm4)
      clear hm4 HS3 HO3
      go_wp2_with fail
      go_ret
      exact ⟨rfl, HM4.out.below⟩
    · have HA2 := Lib.hid (fun w h1 h2 => ages_ok A len cap xs (t + 1) B m cap' bs w h1 HNP.out h2 HM.out (by unfold agec at hc ⊢; rw [if_neg (by omega), if_neg (by omega)] at hc ⊢; exact hc))
      have ht' : (t == 292193) = false := by simpa using ht
      have HMQ := Lib.hid q2
      clear hc c1 c4 c5 c6 c7 hA hlen hmax hcap hmx W1 W2 wk HIt
      go_enter Try.func3, Try.ntmps3
      go_wp2_with fail
      refine (HB0.out _ _ _ ((pi_lit 5 7 rfl).mor (Mor.refl _).alloc) (Ri.of_row (row_lit [9, 30] (by simp) rfl))).mono ?_
      rintro e w1 ⟨g0, rfl, hm0, hr⟩
      have HM0 := Lib.hid (show Mor w w1 from Mor.trans (by repeat (first | exact Mor.refl _ | apply Mor.alloc)) hm0)
      rw [beg_v] at hr
      have HR := Lib.hid hr
      clear hm0 hr
      go_wp2_with fail
      refine (equal_yes _ _ _ _ _ _ 3 [0, 7, 0] _ (HR.out.alloc) (row_lit [0, 7, 0] (by simp) rfl) rfl (by omega)).mono ?_
      rintro e w2 ⟨rfl, m0, hw2⟩
      have HM2 := Lib.hid (show Mor w w2 by rw [hw2]; exact HM0.out.alloc.drewN)
      clear HR hw2 HM0
      have HAA := Lib.hid (HA.out _ (HRP.out.mor HM2.out) (HRI.out.mor HM2.out))
      go_wp2_with ((go_at_call 15; (with_reducible refine HAA.out.mono ?_); rintro e w3 ⟨g3, he, hm3, hr3⟩; rw [HM.out] at he; subst he))
      have HM3 := Lib.hid (HM2.out.trans' hm3)
      have HR3 := Lib.hid hr3
      clear hm3 hr3 HAA
      have HS3 := Lib.hid (HSu.out (some ⟨g3, 0, none⟩) (m + 1) (m + 1) t w3 (Ri.take (Ri.of_row HR3.out)) (by omega))
      have HO3 := Lib.hid (fun w' (h : Mor w3 w') => HOw.out w' (HRP.out.mor (HM3.out.trans' h)))
      rw [HSa.out] at HS3
      go_wp2_with fail
      refine HS3.out.mono ?_
      rintro e w4 ⟨rfl, rfl⟩
      go_wp2_with fail
      refine (HO3.out _ (Mor.refl _)).mono ?_
      rintro e w4 ⟨rfl, hm4⟩
      have HM4 := Lib.hid (HM3.out.trans' hm4)
      have HR4 := Lib.hid (HR3.out.mor hm4)
      clear hm4 HS3 HO3
      go_wp2_with fail
      refine (HA2.out _ (HRP.out.mor HM4.out) (HRI.out.mor HM4.out)).mono ?_
      rintro e w5 ⟨g5, he, hm5, hr5⟩
      rw [HM.out] at he
      subst he
      have HM5 := Lib.hid (HM4.out.trans' hm5)
      have HRx := Lib.hid (HR4.out.mor hm5)
      have HRy := Lib.hid hr5
      clear hm5 hr5
      have HS5 := Lib.hid (fun n => HSu.out (some ⟨g5, 0, none⟩) q (m + 1) (t + 1) (w5.drewN n) (Ri.take (Ri.of_row (HRy.out.drewN))) (by omega))
      have HS6 := Lib.hid (fun n => HSu.out (some ⟨g3, 0, none⟩) q (m + 1) t (w5.drewN n) (Ri.take (Ri.of_row (HRx.out.drewN))) (by omega))
      have HL := HLt.out q
      generalize ((ag xs (t + 1) bs len).take q).sum = s1 at *
      generalize ((ag xs t bs len).take q).sum = s2 at *
      go_wp2_with ((go_at_call 19; (with_reducible refine (HW.out _).mono ?_); rintro e w6 ⟨rfl, rfl⟩))
      go_quiet (first | (go_at_call 17; (with_reducible exact quiet_eq (HS5.out _))) | (go_at_call 17; (with_reducible exact quiet_eq (HS6.out _))))
      go_wp2_with fail
      go_ret
      exact ⟨rfl, HM5.out.drewN.below⟩
  · have HA := Lib.hid (fun w h1 h2 => ages_no A len cap xs t B m cap' bs w h1 HNP.out HMXP.out h2 HM.out HMX.out hc)
    have hc' : (agec xs t bs == 0) = false := by simpa using hc
    generalize agec xs t bs = c at *
    clear hlen hmax hcap hmx
    go_enter Try.func3, Try.ntmps3
    go_wp2_with fail
    refine (HB0.out _ _ _ ((pi_lit 5 7 rfl).mor (Mor.refl _).alloc) (Ri.of_row (row_lit [9, 30] (by simp) rfl))).mono ?_
    rintro e w1 ⟨g0, rfl, hm0, hr⟩
    have HM0 := Lib.hid (show Mor w w1 from Mor.trans (by repeat (first | exact Mor.refl _ | apply Mor.alloc)) hm0)
    rw [beg_v] at hr
    have HR := Lib.hid hr
    clear hm0 hr
    go_wp2_with fail
    refine (equal_yes _ _ _ _ _ _ 3 [0, 7, 0] _ (HR.out.alloc) (row_lit [0, 7, 0] (by simp) rfl) rfl (by omega)).mono ?_
    rintro e w2 ⟨rfl, m0, hw2⟩
    have HM2 := Lib.hid (show Mor w w2 by rw [hw2]; exact HM0.out.alloc.drewN)
    clear HR hw2 HM0
    have HAA := Lib.hid (HA.out _ (HRP.out.mor HM2.out) (HRI.out.mor HM2.out))
    go_wp2_with ((go_at_call 15; (with_reducible refine HAA.out.mono ?_); rintro e w3 ⟨rfl, hm3⟩))
    go_ret
    exact ⟨rfl, (HM2.out.trans' hm3).below⟩

end Go.Proofs.Ytphkckonnogjmaa.ageSum
