/- The walk of talkeep.SeatsVotes. -/
import Derived.Test.YtmpcnipngepfgaaSeatsC
import Derived.Test.YtmpcnipngepfgaaClone
import Derived.Deep.RegionWith
import Derived.StillTailTactics
namespace Go.Proofs.Ytmpcnipngepfgaa.seatsVotes
open Go.ChangeShapes Go.WideShapes Go.ChangeAt Go.RowKit
set_option linter.unusedVariables false

theorem beg {xs : List Int} (h : DealInv 2 [50, 1] xs 2) : xs = [1, 1] := deal_beg (by decide) h (by decide) rfl (by decide)
theorem beg_code : lcode 2 [50, 1] = 0 := by decide

/-- who alone gains votes may still be dealt to -/
theorem code_set {n : Int} {vs : List Int} (h : lcode n vs = 0) (i : Nat) (hi : i < vs.length) (u : Int) (h1 : vs.getD i 0 ≤ u) (h2 : u ≤ 1000000) : lcode n (vs.set i u) = 0 := by
  obtain ⟨c1, c2, c3, c4, c5⟩ := lcode_zero h
  have v0 := (voteOk_get c2 i).1
  have s0 : 0 ≤ vs.sum := by
    rw [← sumTo_list vs _ rfl]
    have := sumTo_le (fun _ => 0) (at0 vs) vs.length (fun j hj => (voteOk_get c2 j).1)
    rw [sumTo_const] at this; omega
  have hs : (vs.set i u).sum = vs.sum + (u - vs.getD i 0) := by
    rw [← sumTo_list (vs.set i u) vs.length (by simp), ← sumTo_list vs _ rfl, ← sumTo_upd (at0 vs) vs.length i hi]
    refine sumTo_congr _ _ _ (fun j hj => ?_)
    rw [at0_set vs i j hi]
    by_cases e : j = i
    · subst e; rw [if_pos rfl, if_pos rfl]; unfold at0; omega
    · rw [if_neg e, if_neg e]
  unfold lcode
  rw [if_neg (by rw [List.length_set]; omega), if_pos, if_neg (by omega), if_neg (by omega)]
  intro v hv
  rcases List.mem_or_eq_of_mem_set hv with a | a
  · exact c2 v a
  · subst a; exact ⟨by omega, h2⟩

set_option maxRecDepth 100000 in
set_option maxHeartbeats 3200000 in
theorem seatsVotes_walk (w : World) (way : Int) (wway : (Lit.int .i64 way).wf = true) (n : Int) (wn : (Lit.int .i64 n).wf = true) (A : Option Addr) (len cap : Nat) (zs : List Int) (hz : IsRow .i64 w A len cap zs) (i : Int) (wi' : (Lit.int .i64 i).wf = true) (b : Int) (wb : (Lit.int .i64 b).wf = true) :
    Calls Try.prog 7 #[.int .i64 way, .int .i64 n, .slice A len cap, .int .i64 i, .int .i64 b] w fun e w' => e = .returned (.bool true) ∧ Below w.heap.size w w' := by
  obtain ⟨hri, hlen, hcap, hmax, hwf, hnil⟩ := Ri.of_isRow hz
  generalize zs.take len = vs at *
  have HRI := Lib.hid hri
  have HLEN := Lib.hid hlen
  have hml : (len : Int) ≤ 9223372036854775807 := by unfold maxLen at hmax; omega
  clear hri hz hwf hmax
  have W1 := wi_lo way 3 (by omega)
  have W2 := wi_hi way 3 (by omega)
  have HW := Lib.hid (fun w => within_any way 3 w (by omega) (by omega))
  generalize wi way 3 = W at *
  have n01 := wi_lo n 200 (by omega)
  have n02 := wi_hi n 200 (by omega)
  have Hn0 := Lib.hid (fun w => within_any n 200 w (by omega) (by omega))
  generalize wi n 200 = n0 at *
  have B1 := wi_lo b 1000 (by omega)
  have B2 := wi_hi b 1000 (by omega)
  have HB := Lib.hid (fun w => within_any b 1000 w (by omega) (by omega))
  generalize wi b 1000 = B at *
  obtain ⟨N, rfl⟩ := Int.eq_ofNat_of_zero_le n01
  by_cases hc : dcode W N vs = 0
  · obtain ⟨hw1, hw2, hl⟩ := dcode_zero hc
    obtain ⟨c1, c2, c3, c4, c5⟩ := lcode_zero hl
    have hl1 : 1 ≤ len := by
      rcases Nat.eq_zero_or_pos len with e | e
      · have : vs = [] := List.eq_nil_of_length_eq_zero (by rw [HLEN.out, e])
        subst this; simp at c5
      · exact e
    have hl1' : (1 : Int) ≤ (len : Int) := by omega
    have m40 : len ≤ 40 := by have := HLEN.out; omega
    have i1 := wi_lo i len hl1'
    have i2 := wi_hi i len hl1'
    have HI := Lib.hid (fun w => within_any i len w hl1' (by omega))
    generalize wi i len = i0 at *
    obtain ⟨I, rfl⟩ := Int.eq_ofNat_of_zero_le i1
    have hI : I < len := by omega
    obtain ⟨v1, v2⟩ := voteOk_get c2 I
    obtain ⟨u, hu⟩ : ∃ u, min 1000000 (vs.getD I 0 + B) = u := ⟨_, rfl⟩
    have u1 : vs.getD I 0 ≤ u := by omega
    have u2 : u ≤ 1000000 := by omega
    have HD := Lib.hid (fun w (h : Ri w A vs) => deal_int W N N A len cap vs w rfl hw1 hw2 h HLEN.out hl)
    have HE := Lib.hid (fun A2 cap2 w (h : Ri w A2 (vs.set I u)) => deal_int W N N A2 len cap2 (vs.set I u) w rfl hw1 hw2 h (by rw [List.length_set]; exact HLEN.out) (code_set hl I (by rw [HLEN.out]; exact hI) u u1 u2))
    have HC := Lib.hid (fun w (h : Ri w A vs) => clone_any A len cap vs w h HLEN.out hnil (by omega))
    have HU := Lib.hid hu
    have HV := Lib.hid c2
    have HVI : Hid (vs.getD I 0 + B = vs.getD I 0 + B) := Lib.hid rfl
    have HFV := Lib.hid (fun xs ys (h : DealInv W vs xs N) (h' : DealInv W (vs.set I u) ys N) => show xs.getD I 0 ≤ ys.getD I 0 ∧ ∀ k, k < len → k ≠ I → ys.getD k 0 ≤ xs.getD k 0 from by
      have hI' : I < vs.length := by rw [HLEN.out]; exact hI
      have a := h'.2.1
      have b := h'.2.2
      rw [List.length_set] at a b
      have := fair_votes (fun i hi => (voteOk_get c2 i).1) h.2.1 a (by rw [h.2.2, b]) hI' (by rw [at0_set vs I I hI', if_pos rfl]; exact u1) (fun j hj e => by rw [at0_set vs I j hI', if_neg e]; rfl)
      exact ⟨this.1, fun k hk e => this.2 k (by rw [HLEN.out]; exact hk) e⟩)
    clear hc hl c1 c2 c5 hnil hu
    go_enter Try.func7, Try.ntmps7
    go_wp2_with fail
    refine (deal_int 2 2 2 _ 2 2 [50, 1] _ rfl (by omega) (by omega) (Ri.of_row (row_lit [50, 1] (by simp) rfl)) rfl beg_code).mono ?_
    rintro e w1 ⟨xs0, g0, bs0, k0, rfl, rfl, hinv, hr⟩
    obtain rfl := beg hinv
    have HR := Lib.hid hr
    clear hinv hr
    go_wp2_with fail
    refine (equal_yes _ _ _ _ _ _ 2 [1, 1] _ (HR.out.alloc) (row_lit [1, 1] (by simp) rfl) rfl (by omega)).mono ?_
    rintro e w1 ⟨rfl, m0, rfl⟩
    clear HR
    go_wp2_with (first | (go_at_call 18; (with_reducible refine (HW.out _).mono ?_); rintro e w1 ⟨rfl, rfl⟩) | (go_at_call 18; (with_reducible refine (Hn0.out _).mono ?_); rintro e w1 ⟨rfl, rfl⟩))
    refine (HD.out _ (HRI.out.mor (by repeat (first | exact Mor.refl _ | apply Mor.alloc | apply Mor.more | apply Mor.drewN | apply Mor.drew)))).mono ?_
    rintro e w1 ⟨xs, g, bs, k, rfl, rfl, hinv, hr⟩
    rw [HLEN.out]
    (try simp [go_sem] at hr)
    have HXL := Lib.hid (show xs.length = len by rw [hinv.1, HLEN.out])
    have HXB := Lib.hid (fun i (hi : i < len) => hinv.bd i (by rw [HLEN.out]; exact hi))
    have HX := Lib.hid hinv
    have HRX := Lib.hid hr
    clear hinv hr HD
    go_wp2_with (first | (go_at_call 18; (with_reducible refine (HI.out _).mono ?_); rintro e w1 ⟨rfl, rfl⟩))
    refine (HC.out _ (HRI.out.mor (by repeat (first | exact Mor.refl _ | apply Mor.alloc | apply Mor.more | apply Mor.drewN | apply Mor.drew)))).mono ?_
    rintro e w1 ⟨vv, rfl, hown, hmor⟩
    obtain ⟨g2, cap2, cur, rfl, hg2, hcap2, hblk, hcur⟩ := own_blk hown hl1
    have HMW := Lib.hid (show Mor w w1 from Mor.trans (by repeat (first | exact Mor.refl _ | apply Mor.alloc | apply Mor.more | apply Mor.drewN | apply Mor.drew)) hmor)
    have HBK := Lib.hid hblk
    have HCU := Lib.hid hcur
    have HRX1 := Lib.hid (HRX.out.mor hmor)
    have HG2 : Hid (g < g2 ∧ w.heap.size ≤ g2) := Lib.hid ⟨Nat.lt_of_lt_of_le HRX.out.1 (by first | exact hg2 | (simp at hg2 ⊢; omega)), by simp at hg2; omega⟩
    have cg : w1.cell? ⟨g2, I, none⟩ = some (.int .i64 (vs.getD I 0)) := by rw [hblk.cell]; exact hcur I (by rw [HLEN.out]; exact hI)
    have fg : w1.frozen? ⟨g2, I, none⟩ = false := hblk.frozen I
    clear hown hmor hblk hcur HRX HC hg2
    have hI0 : (0 : Int) ≤ (I : Int) := by omega
    generalize vs.getD I 0 = vI at *
    have kw : IntKind.i64.wrap (vI + B) = vI + B := IntWalk.i64_in _ (by omega)
    have hif : (if vI + B < 1000000 then vI + B else 1000000) = u := by have := HU.out; split <;> omega
    go_wp2_with fail
    go_region_with ((go_at_call 18; (with_reducible refine (HB.out _).mono ?_); rintro e w1 ⟨rfl, rfl⟩))
    all_goals
      clear kw hif cg fg
      obtain ⟨w2, hw2⟩ : ∃ w2 : World, w2 = (w1.setCell ⟨g2, I, none⟩ (.int .i64 u)).drew := ⟨_, rfl⟩
      have HR2 := Lib.hid (show Ri w2 (some ⟨g2, 0, none⟩) (vs.set I u) by rw [hw2]; exact (HCU.out.set I u).ri ((HBK.out.set_ I _).drew))
      have HM2 := Lib.hid (show Mor w w2 by rw [hw2]; exact Mor.drew (Mor.of_below (HMW.out.below.setCell HG2.out.2 _)))
      have HX2 := Lib.hid (show Row w2 g 0 xs by
        rw [hw2]
        refine ⟨by simpa using HRX1.out.1, fun j hj => ?_⟩
        rw [World.cell?_drew, World.cell?_setCell_other _ _ _ _ (by intro e; injection e with e; have := HG2.out.1; omega)]
        exact HRX1.out.2 j hj)
      rw [← hw2]
      clear hw2
      go_wp2_with fail
      refine (HE.out _ _ _ HR2.out).mono ?_
      rintro e w3 ⟨ys, g3, bs3, k3, rfl, rfl, hinv, hr⟩
      rw [List.length_set, HLEN.out]
      have HYL := Lib.hid (show ys.length = len by rw [hinv.1, List.length_set, HLEN.out])
      have HYB := Lib.hid (fun i (hi : i < len) => hinv.bd i (by rw [List.length_set, HLEN.out]; exact hi))
      have HF := Lib.hid (HFV.out xs ys HX.out hinv)
      have HRY := Lib.hid hr
      clear hinv hr HE HFV
      go_wp2_with fail
      go_loopw [89] (fun i wr => ∃ k : Nat, k ≤ len ∧ i = .int .i64 k ∧ Hid (Mor w wr ∧ Row wr g 0 xs ∧ Row wr g3 0 ys)) (fun i _ => len - (intOf i).toNat)
      case atStart => exact ⟨0, Nat.zero_le _, rfl, Lib.hid ⟨HM2.out.more, HX2.out.more, HRY.out⟩⟩
      case round =>
        obtain ⟨k, hk, rfl, hw⟩ := hrel
        by_cases hlt : k < len
        · have hki : ((k : Nat) : Int) < (len : Int) := by omega
          have cx := hw.out.2.1.get k (by rw [HXL.out]; exact hlt)
          have cy := hw.out.2.2.get k (by rw [HYL.out]; exact hlt)
          rw [Nat.zero_add] at cx cy
          by_cases hki2 : k = I
          · have hf := HF.out.1
            rw [← hki2] at hf
            have e1 : ((k : Int) == (I : Int)) = true := by simp [hki2]
            have e2 : ((k : Int) != (I : Int)) = false := by simp [hki2]
            generalize xs.getD k 0 = x at *
            generalize ys.getD k 0 = y at *
            have f1 : decide (y < x) = false := by simp; omega
            clear hki2
            go_wp2
            go_quiet (fail)
            go_wp2
            go_roundw
            case rel => exact ⟨k + 1, by omega, by go_num, Lib.hid ⟨hw.out.1.drewN, hw.out.2.1, hw.out.2.2⟩⟩
            case measure => simp [intOf]; omega
          · have hf := HF.out.2 k hlt hki2
            have e1 : ((k : Int) == (I : Int)) = false := by simp; omega
            have e2 : ((k : Int) != (I : Int)) = true := by simp; omega
            generalize xs.getD k 0 = x at *
            generalize ys.getD k 0 = y at *
            have f1 : decide (x < y) = false := by simp; omega
            clear hki2
            go_wp2
            go_quiet (fail)
            go_wp2
            go_roundw
            case rel => exact ⟨k + 1, by omega, by go_num, Lib.hid ⟨hw.out.1.drewN, hw.out.2.1, hw.out.2.2⟩⟩
            case measure => simp [intOf]; omega
        · have e : k = len := by omega
          subst e
          go_wp2
          go_ret
          exact ⟨rfl, hw.out.1.below⟩
  · have HD := Lib.hid (fun w (h : Ri w A vs) => deal_no W N A len cap vs w h HLEN.out hc)
    generalize dcode W N vs = c at *
    go_enter Try.func7, Try.ntmps7
    go_wp2_with fail
    refine (deal_int 2 2 2 _ 2 2 [50, 1] _ rfl (by omega) (by omega) (Ri.of_row (row_lit [50, 1] (by simp) rfl)) rfl beg_code).mono ?_
    rintro e w1 ⟨xs0, g0, bs0, k0, rfl, rfl, hinv, hr⟩
    obtain rfl := beg hinv
    have HR := Lib.hid hr
    clear hinv hr
    go_wp2_with fail
    refine (equal_yes _ _ _ _ _ _ 2 [1, 1] _ (HR.out.alloc) (row_lit [1, 1] (by simp) rfl) rfl (by omega)).mono ?_
    rintro e w1 ⟨rfl, m0, rfl⟩
    clear HR
    go_wp2_with (first | (go_at_call 18; (with_reducible refine (HW.out _).mono ?_); rintro e w1 ⟨rfl, rfl⟩) | (go_at_call 18; (with_reducible refine (Hn0.out _).mono ?_); rintro e w1 ⟨rfl, rfl⟩))
    refine (HD.out _ (HRI.out.mor (by repeat (first | exact Mor.refl _ | apply Mor.alloc | apply Mor.more | apply Mor.drewN | apply Mor.drew)))).mono ?_
    rintro e w1 ⟨rfl, rfl⟩
    go_wp2_with fail
    go_ret
    exact ⟨ret_b (by first | rfl | (simp; done) | (simp; omega)), (Mor.below (by repeat (first | exact Mor.refl _ | apply Mor.alloc | apply Mor.more | apply Mor.drewN | apply Mor.drew)))⟩

end Go.Proofs.Ytmpcnipngepfgaa.seatsVotes
