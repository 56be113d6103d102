/- The walk of age.Ages, where all is right. -/
import Derived.Test.YtphkckonnogjmaaAgeB
namespace Go.Proofs.Ytphkckonnogjmaa
open Go.ChangeShapes Go.WideShapes Go.ChangeAt Go.RowKit
set_option linter.unusedVariables false

set_option maxRecDepth 100000 in
set_option maxHeartbeats 3200000 in
theorem ages_ok (A : Option Addr) (n cap : Nat) (xs : List Pr) (t : Int) (B : Option Addr) (m cap' : Nat) (bs : List Int) (w : World) (hr : Pi w A xs) (hn : xs.length = n) (hr' : Ri w B bs) (hm : bs.length = m) (hc : agec xs t bs = 0) :
    Calls Try.prog 15 #[.slice A n cap, .int .i64 t, .slice B m cap'] w (AgPost w xs t bs n) := by
  obtain ⟨c1, c2, c3, c4, c5⟩ := agec_zero hc
  obtain ⟨c6, c7⟩ := itc_zero c1
  obtain ⟨p, hp⟩ : ∃ p, p = m + 1 := ⟨_, rfl⟩
  have HPm := Lib.hid hp
  have hmi : ((m : Int) + 1) = (p : Int) := by omega
  have hmk := fun w => run_make_row' (P := Try.prog) 23 3 (.int .i64 0) 8 Try.underlying23 info_int' rfl .i64 .i64 p (by omega) (by omega) w
  have HC := Lib.hid (acheck_any A n cap xs w hr hn (by unfold maxLen; omega))
  have HI := Lib.hid (fun w => cis_any t w)
  rw [show (decide (0 ≤ t) && decide (t ≤ 292193)) = true by simp; omega] at HI
  rw [c1] at HC
  have HR := Lib.hid hr
  have HR' := Lib.hid hr'
  have HN := Lib.hid hn
  have HM0 := Lib.hid hm
  have HS := Lib.hid (rise_of c5)
  have HB0 := Lib.hid (fun k (h : k < m) => bdAt_zero (bdUp_at c5 (k := k) (by omega)))
  have HIt := Lib.hid (fun k (h : k < n) => itOk_at c7 (k := k) (by omega))
  have n40 : n ≤ 40 := by omega
  have m40 : m ≤ 40 := by omega
  have HBS := Lib.hid (fun v w h => bsearch_any B m cap' bs v w h hm (rise_of c5) (by omega))
  clear hp hr hr' hn hm hc c1 c4 c5 c6 c7
  go_enter Try.func15, Try.ntmps15
  go_wp2_with (first
    | (go_at_call 29; (with_reducible refine (HC.out).mono ?_); rintro e w1 ⟨rfl, hM⟩)
    | (go_at_call 30; (with_reducible refine (HI.out _).mono ?_); rintro e w2 ⟨rfl, rfl⟩))
  have HM1 := Lib.hid hM
  clear hM HC
  go_loopw [29] (fun i wr => ∃ k : Nat, k ≤ m ∧ i = .int .i64 k ∧ Hid (Mor w wr)) (fun i _ => m - (intOf i).toNat)
  case atStart => exact ⟨0, Nat.zero_le _, rfl, HM1⟩
  case round =>
    obtain ⟨k, hk, rfl, HM⟩ := hrel
    by_cases hlt : k < m
    · have hki : (k : Int) < (m : Int) := by omega
      have hk0 : (0 : Int) ≤ (k : Int) := by omega
      obtain ⟨x, hA, hxb, c1⟩ := (HR'.out.mor HM.out).at_ k (by have := HM0.out; omega)
      rw [ei_getD] at c1
      obtain ⟨b1, b2, b3⟩ := HB0.out k hlt
      clear hmk
      by_cases hk1 : 0 < k
      · obtain ⟨x', hA', hxb', c2⟩ := (HR'.out.mor HM.out).at_ (k - 1) (by have := HM0.out; omega)
        rw [ei_getD] at c2
        have e : x' = x := by rw [hA] at hA'; injection hA' with e; exact e.symm
        subst e
        subst hA
        clear hA' hxb'
        have hk2 : 0 < (k : Int) := by omega
        have ek : (k : Int) - 1 = ((k - 1 : Nat) : Int) := by omega
        have hk4 : ((k - 1 : Nat) : Int) < (m : Int) := by omega
        have hk5 : (0 : Int) ≤ ((k - 1 : Nat) : Int) := by omega
        have b4 := b3 hk1
        clear b3
        generalize ei bs (k - 1) = u at *
        generalize ei bs k = v at *
        go_wp2
        go_roundw
        case rel => exact ⟨k + 1, by omega, by go_num, HM⟩
        case measure => simp [intOf]; omega
      · have hk2 : ¬ (0 < (k : Int)) := by omega
        subst hA
        clear b3
        generalize ei bs k = v at *
        go_wp2
        go_roundw
        case rel => exact ⟨k + 1, by omega, by go_num, HM⟩
        case measure => simp [intOf]; omega
    · obtain rfl : k = m := by omega
      go_wp2
      rw [ic_zero]
      clear hmk hmi
      have HWr := Lib.hid (show w.heap.size ≤ wr.heap.size from HM.out.below.size)
      obtain ⟨g, hg⟩ : ∃ g, g = wr.heap.size := ⟨_, rfl⟩
      have HGe := Lib.hid hg
      rw [← hg]
      obtain ⟨w5, hw5⟩ : ∃ w5, w5 = wr := ⟨_, rfl⟩
      subst hw5
      clear hg
      go_loopw [58] (fun c wr => ∃ (r : Nat), r ≤ n ∧ c = .int .i64 r ∧ Hid (Mor w5 wr) ∧ Hid (Blk wr g 3 (ic (ag xs t bs r)))) (fun c _ => n - (intOf c).toNat)
      case atStart =>
        refine ⟨0, Nat.zero_le _, rfl, Lib.hid (Mor.refl _).alloc, Lib.hid ?_⟩
        rw [HGe.out, HPm.out, ← HM0.out]; exact Blk.new _ _ _
      case round =>
        obtain ⟨r, hrm, rfl, HM2, HBlk⟩ := hrel
        by_cases hlt2 : r < n
        · have hri : ((r : Nat) : Int) < (n : Int) := by omega
          have hr0 : (0 : Int) ≤ (r : Int) := by omega
          obtain ⟨x, hA, hxb, c1, c2'⟩ := (HR.out.mor (HM.out.trans' HM2.out)).at_ r (by have := HN.out; omega)
          subst hA
          have HAg := Lib.hid (show aged xs t r = if 0 < t - px xs r then t - px xs r else 0 by unfold aged; split <;> split <;> omega)
          obtain ⟨v, hv⟩ : ∃ v, aged xs t r = v := ⟨_, rfl⟩
          have HV := Lib.hid hv
          have HBS' := Lib.hid (HBS.out v (wr.alloc (.cells #[.int .i64 (px xs r), .int .i64 (py xs r)] 28)) (((HR'.out.mor HM.out).mor HM2.out).mor (Mor.refl _).alloc))
          obtain ⟨b1, b2, b3, b4⟩ := HIt.out r hlt2
          obtain ⟨q, hq⟩ : ∃ q, pos bs v = q := ⟨_, rfl⟩
          have hqp : q < p := by have := pos_le bs v; have := HM0.out; have := HPm.out; omega
          obtain ⟨a1, a2⟩ := ag_bd (xs := xs) (t := t) (bs := bs) (j := r) (fun k hk => (HIt.out k (by omega)).2.2) q
          have HF := Lib.hid (fun (w9 : World) (h1 : Mor w5 w9) (h2 : Blk w9 g 3 (ic (ag xs t bs r))) => show
              w9.cell? ⟨g, q, none⟩ = some (.int .i64 (ei (ag xs t bs r) q)) ∧ w9.frozen? ⟨g, q, none⟩ = false ∧
              Blk (w9.setCell ⟨g, q, none⟩ (.int .i64 (ei (ag xs t bs r) q + py xs r))) g 3 (ic (ag xs t bs (r + 1))) ∧
              Mor w5 (w9.setCell ⟨g, q, none⟩ (.int .i64 (ei (ag xs t bs r) q + py xs r))) by
            refine ⟨by rw [h2.cell, ic_get _ _ (by rw [ag_len]; have := HM0.out; have := HPm.out; omega)]; rfl, h2.frozen q, ?_, Mor.of_below (h1.below.setCell (by rw [HGe.out]; exact Nat.le_refl _) _)⟩
            have e : ag xs t bs (r + 1) = (ag xs t bs r).set q (ei (ag xs t bs r) q + py xs r) := by
              show (ag xs t bs r).set (pos bs (aged xs t r)) (ei (ag xs t bs r) (pos bs (aged xs t r)) + py xs r) = _
              rw [HV.out, hq]
            rw [e, ← ic_set]; exact h2.set_ q _)
          have hq1 : ((q : Nat) : Int) < (p : Int) := by omega
          have hq0 : (0 : Int) ≤ (q : Int) := by omega
          have HVe := Lib.hid (show v = if 0 < t - px xs r then t - px xs r else 0 by rw [← HAg.out, hv])
          rw [hq] at HBS'
          generalize ei (ag xs t bs r) q = a at *
          generalize px xs r = d at *
          generalize py xs r = y at *
          clear hv hq
          by_cases hmx : 0 < t - d
          · obtain rfl : v = t - d := by rw [HVe.out, if_pos hmx]
            go_wp2_with (first
              | (go_at_call 31; (with_reducible refine (HBS'.out).mono ?_); rintro e w9 ⟨b, rfl, hw9⟩; obtain ⟨c4, hfz, f1, f2⟩ := HF.out w9 (hw9 ▸ HM2.out.alloc) (hw9 ▸ HBlk.out.alloc _); have c5 : w9.cell? ⟨wr.heap.size, 1, none⟩ = some (.int .i64 y) := (by rw [← hw9, World.cell?_alloc_new]; rfl); have HF1 := Lib.hid f1; have HF2 := Lib.hid f2; clear f1 f2 hw9 hmx))
            go_region
            go_wp2
            go_roundw
            case rel => exact ⟨r + 1, by omega, by go_num, Lib.hid (Mor.drew HF2.out), Lib.hid (Blk.drew HF1.out)⟩
            case measure => simp [intOf]; omega
          · obtain rfl : v = 0 := by rw [HVe.out, if_neg hmx]
            go_wp2_with (first
              | (go_at_call 31; (with_reducible refine (HBS'.out).mono ?_); rintro e w9 ⟨b, rfl, hw9⟩; obtain ⟨c4, hfz, f1, f2⟩ := HF.out w9 (hw9 ▸ HM2.out.alloc) (hw9 ▸ HBlk.out.alloc _); have c5 : w9.cell? ⟨wr.heap.size, 1, none⟩ = some (.int .i64 y) := (by rw [← hw9, World.cell?_alloc_new]; rfl); have HF1 := Lib.hid f1; have HF2 := Lib.hid f2; clear f1 f2 hw9 hmx))
            go_region
            go_wp2
            go_roundw
            case rel => exact ⟨r + 1, by omega, by go_num, Lib.hid (Mor.drew HF2.out), Lib.hid (Blk.drew HF1.out)⟩
            case measure => simp [intOf]; omega
        · obtain rfl : r = n := by omega
          go_wp2
          go_returns
          exact ⟨g, by rw [HM0.out, ← HPm.out] <;> rfl, HM.out.trans' HM2.out, HBlk.out.row⟩

end Go.Proofs.Ytphkckonnogjmaa
