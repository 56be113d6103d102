/- The walk of talkeep.AgePaid. -/
import Derived.Test.YtphkckonnogjmaaPayE
import Derived.Deep.DeepCutAuto
import Derived.Deep.RegionWith
namespace Go.Proofs.Ytphkckonnogjmaa.agePaid
open Go.ChangeShapes Go.WideShapes Go.ChangeAt Go.RowKit Stb
set_option linter.unusedVariables false

theorem beg_c : payc [(5, 10), (3, 10)] 15 = 0 := by decide
theorem beg_v : pay (byDay [(5, 10), (3, 10)]) 15 = [(5, 5)] := by decide
theorem beg_r : lft (byDay [(5, 10), (3, 10)]) 15 = 0 := by decide

set_option maxRecDepth 100000 in
set_option maxHeartbeats 6400000 in
theorem agePaid_walk (w : World) (A : Option Addr) (len cap : Nat) (xs : List Pr) (hp : IsPr w A len cap xs) (a : Int) (wa : (Lit.int .i64 a).wf = true) :
    Calls Try.prog 6 #[.slice A len cap, .int .i64 a] w fun e w' => e = .returned (.bool true) ∧ Below w.heap.size w w' := by
  have HRP := Lib.hid hp.pi
  have HNP := Lib.hid hp.length
  have HNil := Lib.hid hp.nil
  have HMXP := Lib.hid (Nat.le_trans hp.le hp.max)
  clear hp wa
  by_cases hc : payc xs a = 0
  · obtain ⟨c1, c2, a0, a1⟩ := payc_zero hc
    have l40 : len ≤ 40 := by have := HNP.out; omega
    have HOk := Lib.hid c2
    have HPa := Lib.hid (fun w' (h : Mor w w') => pay_yes A len cap xs a w' (HRP.out.mor h) HNP.out HNil.out hc)
    have HB := Lib.hid (byDay_ok HOk.out)
    have hS : Srt dayOf (byDay xs) := isort_srt xs
    have HXs := Lib.hid (pay_srt (a := a) hS)
    have HYg := Lib.hid (fun q rest (h : pay (byDay xs) a = q :: rest) => pay_young hS h)
    obtain ⟨q1, q2⟩ := left_ok c1 c2 a0
    have HXo := Lib.hid q2
    have ht := tot_pay (byDay xs) a a0 (ok_one HB.out)
    rw [tot_byDay] at ht
    have hL := lft_bd a0 (ok_one HB.out)
    have hz : 0 < lft (byDay xs) a → pay (byDay xs) a = [] := by
      intro h
      refine pay_all (ok_one HB.out) ?_
      unfold lft at h
      split at h <;> omega
    have t0 := tot_nn (ok_one c2)
    have tb := tot_bd c2
    have HMem := Lib.hid (fun p => show p ∈ xs → p ∈ byDay xs from (isort_perm xs).mem_iff.2)
    unfold PayPost at HPa
    generalize lft (byDay xs) a = L at *
    generalize pay (byDay xs) a = X at *
    obtain ⟨L0, L1⟩ := hL
    have HTx := Lib.hid ht
    have HTl := Lib.hid (fun B m cap' w' (h : Pi w' B X) (hn : X.length = m) => owed_tot B m cap' X w' h hn (by omega) q2)
    have HTs := Lib.hid (fun w' (h : Mor w w') => owed_tot A len cap xs w' (HRP.out.mor h) HNP.out l40 HOk.out)
    rw [ht] at HTl
    clear hc c1 c2 hS ht
    generalize tot xs = t at *
    rw [HNP.out] at tb
    go_enter Try.func6, Try.ntmps6
    go_wp2_with fail
    refine (pay_yes _ 2 2 [(5, 10), (3, 10)] 15 _ (pi_lit2 5 10 3 10 rfl) rfl (by simp) beg_c).mono ?_
    rintro e w3 ⟨B, m, cap', rfl, hm, hpi, hlen, hB⟩
    rw [beg_v] at hlen hpi
    rw [beg_r]
    obtain rfl : m = 1 := hlen.symm
    have HM := Lib.hid (show Mor w w3 from Mor.trans' (by repeat (first | exact Mor.refl _ | apply Mor.alloc)) hm)
    have HX1 := Lib.hid hpi
    clear hm hpi hlen hB
    go_wp2_with fail
    refine (equal_it B _ 1 cap' 1 [(5, 5)] _ (HX1.out.mor (Mor.refl _).alloc) (pi_lit 5 5 rfl) rfl (by omega)).mono ?_
    rintro e w4 ⟨rfl, hm⟩
    have HM4 := Lib.hid ((HM.out.alloc).trans' hm)
    clear hm HX1 HM
    go_wp2_with fail
    refine (HPa.out _ HM4.out).mono ?_
    rintro e w5 ⟨B1, m1, cap1, rfl, hm, hpi, hlen, -⟩
    have HM5 := Lib.hid (HM4.out.trans' hm)
    have HX := Lib.hid hpi
    have HXl := Lib.hid hlen
    have m40 : m1 ≤ 40 := by omega
    have hz1 : 0 < L → m1 = 0 := fun h => by rw [← HXl.out, hz h]; rfl
    clear hm hpi hlen hz HPa q1
    go_wp2_with fail
    refine (HTl.out _ _ _ _ HX.out HXl.out).mono ?_
    rintro e w6 ⟨rfl, hm⟩
    have HM6 := Lib.hid hm
    clear hm
    go_wp2_with fail
    refine (HTs.out _ (HM5.out.trans' HM6.out)).mono ?_
    rintro e w7 ⟨rfl, hm⟩
    have HM7 := Lib.hid (HM6.out.trans' hm)
    clear hm HM6
    have hcase : (0 < L ∧ ¬ (0 < (m1 : Int))) ∨ ¬ (0 < L) := by
      by_cases h : 0 < L
      · exact .inl ⟨h, by have := hz1 h; omega⟩
      · exact .inr h
    clear hz1
    rcases hcase with ⟨hL0, hm0⟩ | hL0
    · go_wp2_with fail
      go_loopw [11] (fun vi wr => vi = .int .i64 1 ∧ Hid (Mor w7 wr)) (fun vi _ => 1)
      case atStart => exact ⟨rfl, Lib.hid (Mor.refl _)⟩
      case round =>
        obtain ⟨rfl, HMr⟩ := hrel
        have hki : ¬ ((1 : Int) < (m1 : Int)) := by omega
        go_wp2
        clear hki
        go_loopw [98] (fun vi wr => ∃ j : Nat, j ≤ len ∧ vi = .int .i64 j ∧ Hid (Mor w7 wr)) (fun vi _ => len - (intOf vi).toNat)
        case atStart => exact ⟨0, Nat.zero_le _, rfl, HMr⟩
        case round =>
          obtain ⟨j, hj, rfl, HMj⟩ := hrel
          by_cases hjl : j < len
          · have hji : (j : Int) < (len : Int) := by omega
            have hj0 : (0 : Int) ≤ (j : Int) := by omega
            obtain ⟨z, hA, hzb, c1, c2⟩ := (HRP.out.mor (HM5.out.trans' (HM7.out.trans' HMj.out))).cells j (by rw [HNP.out]; exact hjl)
            subst hA
            have hm1b : decide (0 < (m1 : Int)) = false := by simpa using hm0
            go_wp2
            go_quiet (fail)
            go_wp2
            go_roundw
            case rel => exact ⟨j + 1, by omega, by go_num, Lib.hid (by repeat (first | exact HMj.out | apply Mor.alloc | apply Mor.more | apply Mor.drewN | apply Mor.drew))⟩
            case measure => simp [intOf]; omega
          · obtain rfl : j = len := by omega
            go_wp2
            go_ret
            exact ⟨rfl, (HM5.out.trans' (HM7.out.trans' HMj.out)).below⟩
    · go_wp2_with fail
      go_loopw [11] (fun vi wr => ∃ k : Nat, 1 ≤ k ∧ k ≤ m1 + 1 ∧ vi = .int .i64 k ∧ Hid (Mor w7 wr)) (fun vi _ => m1 + 1 - (intOf vi).toNat)
      case atStart => exact ⟨1, Nat.le_refl _, by omega, rfl, Lib.hid (Mor.refl _)⟩
      case round =>
        obtain ⟨k, hk1, hk2, rfl, HMr⟩ := hrel
        by_cases hlt : k < m1
        · have hki : (k : Int) < (m1 : Int) := by omega
          have hk0 : (0 : Int) ≤ (k : Int) := by omega
          obtain ⟨q, hq⟩ : ∃ q, q = k - 1 := ⟨_, rfl⟩
          have e1 : (k : Int) - 1 = (q : Int) := by omega
          have q0 : (0 : Int) ≤ (q : Int) := by omega
          have qN : (q : Int) < (m1 : Int) := by omega
          obtain ⟨x, hA, hxb, c1, c2⟩ := (HX.out.mor (HM7.out.trans' HMr.out)).cells k (by rw [HXl.out]; exact hlt)
          obtain ⟨y, hB, hyb, d1, d2⟩ := (HX.out.mor (HM7.out.trans' HMr.out)).cells q (by rw [HXl.out]; omega)
          rw [hA] at hB
          injection hB with hB
          subst hB hA
          have hle : (ge X q).1 ≤ (ge X k).1 := by
            have h1 := HXs.out
            rw [← seg_all X rfl] at h1
            exact (srt_seg (Nat.le_refl _)).1 h1 q k (Nat.zero_le _) (by omega) (by rw [HXl.out]; exact hlt)
          have hle' : ¬ ((ge X k).1 < (ge X q).1) := by omega
          clear hq hle
          generalize (ge X k).1 = u at *
          generalize (ge X q).1 = v at *
          have wq : IntKind.i64.wrap (q : Int) = (q : Int) := IntWalk.i64_in _ (by omega)
          go_wp2
          go_quiet (fail)
          go_wp2
          go_roundw
          case rel => exact ⟨k + 1, by omega, by omega, by go_num, Lib.hid (by repeat (first | exact HMr.out | apply Mor.alloc | apply Mor.more | apply Mor.drewN | apply Mor.drew))⟩
          case measure => simp [intOf]; omega
        · have hki : ¬ ((k : Int) < (m1 : Int)) := by omega
          go_wp2
          clear hki
          go_loopw [98] (fun vi wr => ∃ j : Nat, j ≤ len ∧ vi = .int .i64 j ∧ Hid (Mor w7 wr)) (fun vi _ => len - (intOf vi).toNat)
          case atStart => exact ⟨0, Nat.zero_le _, rfl, HMr⟩
          case round =>
            obtain ⟨j, hj, rfl, HMj⟩ := hrel
            by_cases hjl : j < len
            · have hji : (j : Int) < (len : Int) := by omega
              have hj0 : (0 : Int) ≤ (j : Int) := by omega
              obtain ⟨z, hA, hzb, c1, c2⟩ := (HRP.out.mor (HM5.out.trans' (HM7.out.trans' HMj.out))).cells j (by rw [HNP.out]; exact hjl)
              subst hA
              have hmem := HMem.out (ge xs j) (List.mem_of_getElem? (ge_some (by rw [HNP.out]; exact hjl)))
              by_cases hm1 : 0 < m1
              · have hm1i : 0 < (m1 : Int) := by omega
                have hm1b : decide (0 < (m1 : Int)) = true := by simpa using hm1i
                obtain ⟨x, hB, hxb, d1, d2⟩ := (HX.out.mor (HM7.out.trans' HMj.out)).cells 0 (by rw [HXl.out]; exact hm1)
                subst hB
                have HC := Lib.hid (fun w' (h : Mor wr w') (hq : (ge X 0).1 < (ge xs j).1) => contains_it (some x) m1 cap1 X (ge xs j) w' (HX.out.mor ((HM7.out.trans' HMj.out).trans' h)) HXl.out (by omega) (by
                  have hX : ∃ q rest, X = q :: rest := by
                    cases X with
                    | nil => have := HXl.out; simp at this; omega
                    | cons q rest => exact ⟨q, rest, rfl⟩
                  obtain ⟨q, rest, rfl⟩ := hX
                  exact List.mem_cons_of_mem _ (HYg.out q rest rfl _ hmem hq)))
                clear hmem
                have ea : x.add (0 * 2) = x := by simp [Addr.add]
                have HKp := Lib.hid (fun w' (h : Mor (wr.alloc (.cells #[.int .i64 (ge xs j).1, .int .i64 (ge xs j).2] 28)) w') => show w'.cell? ⟨wr.heap.size, 0, none⟩ = some (.int .i64 (ge xs j).1) ∧ w'.cell? ⟨wr.heap.size, 1, none⟩ = some (.int .i64 (ge xs j).2) ∧ w'.cell? x = some (.int .i64 (ge X 0).1) from by
                  have hb := h.below
                  refine ⟨?_, ?_, ?_⟩
                  · rw [hb.cell (by simp), World.cell?_alloc_new]; rfl
                  · rw [hb.cell (by simp), World.cell?_alloc_new]; rfl
                  · have h2 := ((HX.out.mor (HM7.out.trans' HMj.out)).mor ((Mor.refl _).alloc.trans' h))
                    obtain ⟨x', hB', hxb', d1', d2'⟩ := h2.cells 0 (by rw [HXl.out]; exact hm1)
                    injection hB' with hB'
                    subst hB'
                    rw [ea] at d1'; exact d1')
                have d3 : wr.cell? x = some (.int .i64 (ge X 0).1) := by rw [ea] at d1; exact d1
                generalize (ge X 0).1 = q at *
                generalize (ge X 0).2 = q' at *
                generalize ge xs j = p at *
                obtain ⟨u, v⟩ := p
                dsimp only at *
                by_cases hq : q < u
                · have hq2 : decide (q < u) = true := by simpa using hq
                  go_wp2
                  go_region_held3 (fun w' => w'.cell? ⟨wr.heap.size, 0, none⟩ = some (.int .i64 u) ∧ w'.cell? ⟨wr.heap.size, 1, none⟩ = some (.int .i64 v) ∧ w'.cell? x = some (.int .i64 q)) (exact HKp.out _ (by repeat (first | exact Mor.refl _ | apply Mor.alloc | apply Mor.more | apply Mor.drewN | apply Mor.drew))) (first | (go_at_call 22; (with_reducible refine (HC.out _ (by repeat (first | exact Mor.refl _ | apply Mor.alloc | apply Mor.more | apply Mor.drewN | apply Mor.drew)) hq).mono ?_); rintro e w1 ⟨rfl, bs, k, rfl⟩))
                  go_wp2
                  go_roundw
                  case rel => exact ⟨j + 1, by omega, by go_num, Lib.hid (by repeat (first | exact HMj.out | apply Mor.alloc | apply Mor.more | apply Mor.drewN | apply Mor.drew))⟩
                  case measure => simp [intOf]; omega
                · have hq2 : decide (q < u) = false := by simpa using hq
                  go_wp2
                  go_quiet (fail)
                  go_wp2
                  go_roundw
                  case rel => exact ⟨j + 1, by omega, by go_num, Lib.hid (by repeat (first | exact HMj.out | apply Mor.alloc | apply Mor.more | apply Mor.drewN | apply Mor.drew))⟩
                  case measure => simp [intOf]; omega
              · have hm1i : ¬ (0 < (m1 : Int)) := by omega
                have hm1b : decide (0 < (m1 : Int)) = false := by simpa using hm1i
                go_wp2
                go_quiet (fail)
                go_wp2
                go_roundw
                case rel => exact ⟨j + 1, by omega, by go_num, Lib.hid (by repeat (first | exact HMj.out | apply Mor.alloc | apply Mor.more | apply Mor.drewN | apply Mor.drew))⟩
                case measure => simp [intOf]; omega
            · obtain rfl : j = len := by omega
              go_wp2
              go_ret
              exact ⟨rfl, (HM5.out.trans' (HM7.out.trans' HMj.out)).below⟩
  · have HP0 := Lib.hid (fun w' (h : Mor w w') => pay_no A len cap xs a w' (HRP.out.mor h) HNP.out HMXP.out hc)
    unfold PayNo at HP0
    have hc' : (payc xs a == 0) = false := by simpa using hc
    generalize payc xs a = c at *
    clear hc
    go_enter Try.func6, Try.ntmps6
    go_wp2_with fail
    refine (pay_yes _ 2 2 [(5, 10), (3, 10)] 15 _ (pi_lit2 5 10 3 10 rfl) rfl (by simp) beg_c).mono ?_
    rintro e w3 ⟨B, m, cap', rfl, hm, hpi, hlen, hB⟩
    rw [beg_v] at hlen hpi
    rw [beg_r]
    obtain rfl : m = 1 := hlen.symm
    have HM := Lib.hid (show Mor w w3 from Mor.trans' (by repeat (first | exact Mor.refl _ | apply Mor.alloc)) hm)
    have HX1 := Lib.hid hpi
    clear hm hpi hlen hB
    go_wp2_with fail
    refine (equal_it B _ 1 cap' 1 [(5, 5)] _ (HX1.out.mor (Mor.refl _).alloc) (pi_lit 5 5 rfl) rfl (by omega)).mono ?_
    rintro e w4 ⟨rfl, hm⟩
    have HM4 := Lib.hid ((HM.out.alloc).trans' hm)
    clear hm HX1 HM
    go_wp2_with fail
    refine (HP0.out _ HM4.out).mono ?_
    rintro e w5 ⟨rfl, hm⟩
    go_wp2_with fail
    go_ret
    exact ⟨rfl, (HM4.out.trans' hm).below⟩

end Go.Proofs.Ytphkckonnogjmaa.agePaid
