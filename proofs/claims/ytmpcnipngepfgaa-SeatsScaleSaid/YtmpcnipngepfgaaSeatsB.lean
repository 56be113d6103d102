/- The walk of seats.Deal: what it hands out is fair. -/
import Derived.Test.YtmpcnipngepfgaaSeatsA
namespace Go.Proofs.Ytmpcnipngepfgaa
open Go.ChangeShapes Go.WideShapes Go.ChangeAt Go.RowKit
set_option linter.unusedVariables false

theorem info_int : (Try.prog.info? 3).map (fun i => (i.zero, i.size, i.bytes)) = some (some (.int .i64 0), 1, 8) := by kernel_rfl

/-- as a function of the place -/
def at0 (xs : List Int) (i : Nat) : Int := xs.getD i 0
theorem at0_set (xs : List Int) (B i : Nat) (hB : B < xs.length) (v : Int) : at0 (xs.set B v) i = if i = B then v else at0 xs i := by
  unfold at0
  rw [List.getD_eq_getElem?_getD, List.getElem?_set]
  by_cases e : B = i
  · subst e; rw [if_pos rfl, if_pos hB, if_pos rfl]; rfl
  · rw [if_neg e, if_neg (fun h => e h.symm), List.getD_eq_getElem?_getD]
theorem sumTo_list (xs : List Int) (m : Nat) (hm : xs.length = m) : sumTo (at0 xs) m = xs.sum := by
  have key : ∀ k, k ≤ m → sumTo (at0 xs) k = (xs.take k).sum := by
    intro k
    induction k with
    | zero => intro _; simp [sumTo]
    | succ k ih =>
      intro hk
      rw [sum_take_succ _ _ (by omega), ← ih (by omega)]; rfl
  rw [key m (Nat.le_refl _), List.take_of_length_le (by omega)]

/-- the seats after r rounds -/
def DealInv (way : Int) (vs xs : List Int) (r : Nat) : Prop :=
  xs.length = vs.length ∧ Fair way vs.length (at0 vs) (at0 xs) ∧ sumTo (at0 xs) vs.length = r
theorem DealInv.bd {way : Int} {vs xs : List Int} {r : Nat} (h : DealInv way vs xs r) (i : Nat) (hi : i < vs.length) : 0 ≤ xs.getD i 0 ∧ xs.getD i 0 ≤ r := by
  obtain ⟨hl, hf, hs⟩ := h
  have a := hf.1 i hi
  refine ⟨a, ?_⟩
  have := sumTo_le (fun j => if j = i then at0 xs i else 0) (at0 xs) vs.length (fun j hj => by
    by_cases e : j = i
    · subst e; simp
    · (try simp only); rw [if_neg e]; exact hf.1 j hj)
  have e2 := sumTo_upd (fun _ => 0) vs.length i hi (at0 xs i)
  rw [sumTo_const] at e2
  have e3 : sumTo (fun j => if j = i then at0 xs i else 0) vs.length = sumTo (fun j => if j = i then (0 : Int) + at0 xs i else 0) vs.length := sumTo_congr _ _ _ (fun j hj => by by_cases e : j = i <;> simp [e])
  show at0 xs i ≤ r
  omega
theorem DealInv.step {way : Int} {vs xs : List Int} {r B : Nat} (h : DealInv way vs xs r) (hv : ∀ v ∈ vs, voteOk v) (hb : Best way (at0 vs) (at0 xs) vs.length B) :
    B < vs.length ∧ DealInv way vs (xs.set B (xs.getD B 0 + 1)) (r + 1) := by
  obtain ⟨hl, hf, hs⟩ := h
  obtain ⟨hB, hn⟩ := hf.next (fun i hi => (voteOk_get hv i).1) hb
  have e : at0 (xs.set B (xs.getD B 0 + 1)) = fun i => if i = B then at0 xs i + 1 else at0 xs i := by
    funext i
    rw [at0_set xs B i (by omega)]
    by_cases e : i = B
    · subst e; simp [at0]
    · simp [e]
  refine ⟨hB, by rw [List.length_set]; exact hl, by rw [e]; exact hn, ?_⟩
  rw [e, sumTo_upd _ _ _ hB]; omega

/-- what seats.Deal hands back -/
def DealPost (w : World) (way : Int) (n : Nat) (vs : List Int) (e : Ending) (w' : World) : Prop :=
  ∃ xs g bs k, e = .returned (.tuple #[.slice (some ⟨g, 0, none⟩) vs.length vs.length, .int .i64 0]) ∧ w' = more w bs k ∧ DealInv way vs xs n ∧ Row (more w bs k) g 0 xs

theorem tag_b {a b : Bool} (h : a = b) : Value.bool a = .bool b := by rw [h]

set_option maxRecDepth 100000 in
set_option maxHeartbeats 6400000 in
theorem deal_ok (way : Int) (n : Nat) (A : Option Addr) (m cap : Nat) (vs : List Int) (w : World) (hw1 : 0 ≤ way) (hw2 : way ≤ 2) (hr : Ri w A vs) (hm : vs.length = m) (hc : lcode n vs = 0) :
    Calls Try.prog 15 #[.int .i64 way, .int .i64 n, .slice A m cap] w (DealPost w way n vs) := by
  obtain ⟨c1, c2, c3, c4, c5⟩ := lcode_zero hc
  have hmk := fun w => run_make_row' (P := Try.prog) 22 3 (.int .i64 0) 8 Try.underlying22 info_int rfl .i64 .i64 m (by omega) (by omega) w
  have hlv : lval n vs = vs.sum := by unfold lval; rw [if_pos hc]
  have HL := Lib.hid (fun w (h : Ri w A vs) => slook_any n A m cap vs w h hm)
  rw [hc, hlv] at HL
  have HV := Lib.hid c2
  have HR := Lib.hid hr
  have HN := Lib.hid hm
  have HSV := Lib.hid (show sumTo (at0 vs) vs.length ≠ 0 by rw [sumTo_list vs _ rfl]; exact c5)
  have HI0 := Lib.hid (show DealInv way vs (List.replicate m 0) 0 from by
    have e : at0 (List.replicate m 0) = fun _ => 0 := by
      funext i; unfold at0; rw [List.getD_eq_getElem?_getD, List.getElem?_replicate]; split <;> rfl
    refine ⟨by simp [hm], by rw [e]; exact Fair.zero _ _ _, by rw [e, sumTo_const]; simp⟩)
  have m40 : m ≤ 40 := by omega
  clear hc hlv hr hm c1 c2 c5
  generalize vs.sum = S at *
  go_enter Try.func15, Try.ntmps15
  go_wp2_with (first | (go_at_call 28; (with_reducible refine (HL.out _ HR.out).mono ?_); rintro e w1 ⟨rfl, rfl⟩))
  rw [ic_zero]
  clear hmk
  go_loopw [33] (fun c wr => ∃ (r : Nat) (xs : List Int), r ≤ n ∧ c = .int .i64 r ∧ Hid (DealInv way vs xs r) ∧ Hid (Below w.heap.size w wr) ∧ Hid (Blk wr w.heap.size 3 (ic xs))) (fun c _ => n - (intOf c).toNat)
  case atStart => exact ⟨0, List.replicate m 0, Nat.zero_le _, rfl, HI0, Lib.hid ((Below.refl _ _).alloc (Nat.le_refl _) _), Lib.hid (Blk.new _ _ _)⟩
  case round =>
    obtain ⟨r, xs, hrn, rfl, hinv, hbel, hblk⟩ := hrel
    by_cases hlt : r < n
    · obtain ⟨wo, rfl⟩ : ∃ wo : World, wo = wr := ⟨_, rfl⟩
      have hri : ((r : Nat) : Int) < (n : Int) := by omega
      have HVR := Lib.hid (fun i (hi : i < m) w2 (h2 : ∃ k, w2 = wo.drewN k) => show ∃ x, A = some x ∧ w2.cell? (x.add i) = some (.int .i64 (vs.getD i 0)) from by
        obtain ⟨k, rfl⟩ := h2
        obtain ⟨x, a, _, b⟩ := (HR.out.below hbel.out).at_ i (by rw [HN.out]; exact hi)
        exact ⟨x, a, b⟩)
      have HXR := Lib.hid (fun i (hi : i < m) w2 (h2 : ∃ k, w2 = wo.drewN k) => show w2.cell? ⟨w.heap.size, i, none⟩ = some (.int .i64 (xs.getD i 0)) from by
        obtain ⟨k, rfl⟩ := h2
        rw [World.cell?_drewN, hblk.out.cell, ic_get _ _ (by rw [hinv.out.1, HN.out]; exact hi)])
      have HXB := Lib.hid (fun i (hi : i < m) => hinv.out.bd i (by rw [HN.out]; exact hi))
      have HVB := Lib.hid (fun i => voteOk_get HV.out i)
      go_wp2
      go_loopw [11, 37] (fun b c w2 => ∃ (i : Nat) (bb : Int), i ≤ m ∧ c = .int .i64 i ∧ b = .int .i64 bb ∧ Hid (Best way (at0 vs) (at0 xs) i bb) ∧ -1 ≤ bb ∧ bb < i ∧ Hid (∃ q, w2 = wo.drewN q)) (fun _ c _ => m - (intOf c).toNat)
      case atStart => exact ⟨0, -1, Nat.zero_le _, rfl, rfl, Lib.hid (Best.zero _ _ _), by omega, by omega, Lib.hid ⟨0, rfl⟩⟩
      case round =>
        obtain ⟨i, bb, him, rfl, rfl, hbest, hb1, hb2, hq⟩ := hrel
        by_cases hil : i < m
        · obtain ⟨x, hA, cv⟩ := HVR.out i hil _ hq.out
          have hii : ((i : Nat) : Int) < (m : Int) := by omega
          obtain ⟨v1, v2⟩ := HVB.out i
          obtain ⟨vi, hvi⟩ : ∃ v, vs.getD i 0 = v := ⟨_, rfl⟩
          have HVI := Lib.hid hvi
          rw [hvi] at cv v1 v2
          clear hvi
          subst hA
          by_cases hz : vi = 0
          · subst hz
            have HB2 := Lib.hid (hbest.out.skip (i := i) HVI.out)
            go_wp2
            go_roundw
            case rel => exact ⟨i + 1, bb, by omega, by go_num, rfl, HB2, by omega, by omega, hq⟩
            case measure => simp [intOf]; omega
          · have vz : (vi == 0) = false := by simp; omega
            have vp : 0 < vi := by omega
            clear hz
            by_cases hbn : bb < 0
            · have HB2 := Lib.hid (hbest.out.first hbn (by show 0 < vs.getD i 0; rw [HVI.out]; exact vp))
              go_wp2
              go_quiet ((go_at_call 29; fail))
              go_wp2
              go_roundw
              case rel => exact ⟨i + 1, i, by omega, by go_num, rfl, HB2, by omega, by omega, Lib.hid (by obtain ⟨q, e⟩ := hq.out; rw [e, World.drewN_drewN]; exact ⟨_, rfl⟩)⟩
              case measure => simp [intOf]; omega
            · obtain ⟨B, rfl⟩ := Int.eq_ofNat_of_zero_le (show 0 ≤ bb by omega)
              obtain ⟨x2, hA2, cB⟩ := HVR.out B (by omega) _ hq.out
              injection hA2 with hA2
              subst hA2
              have cxB := HXR.out B (by omega) _ hq.out
              have cxi := HXR.out i hil _ hq.out
              obtain ⟨b1, b2⟩ := HXB.out B (by omega)
              obtain ⟨b3, b4⟩ := HXB.out i hil
              obtain ⟨b5, b6⟩ := HVB.out B
              have HTake := Lib.hid (fun (h : at0 vs B * dv way (at0 xs i) < at0 vs i * dv way (at0 xs B)) => hbest.out.take (fun j hj => (HXB.out j (by omega)).1) (by show 0 < vs.getD i 0; rw [HVI.out]; exact vp) h)
              have HStay := Lib.hid (fun (h : at0 vs i * dv way (at0 xs B) ≤ at0 vs B * dv way (at0 xs i)) => hbest.out.stay (by show 0 < vs.getD i 0; rw [HVI.out]; exact vp) h)
              have HTake' := Lib.hid (show vs.getD B 0 * dv way (xs.getD i 0) < vi * dv way (xs.getD B 0) → Best way (at0 vs) (at0 xs) (i + 1) i by rw [← HVI.out]; exact HTake.out)
              have HStay' := Lib.hid (show vi * dv way (xs.getD B 0) ≤ vs.getD B 0 * dv way (xs.getD i 0) → Best way (at0 vs) (at0 xs) (i + 1) B by rw [← HVI.out]; exact HStay.out)
              clear HTake HStay
              generalize vs.getD B 0 = vB at *
              generalize xs.getD B 0 = xB at *
              generalize xs.getD i 0 = xi at *
              have HDB := Lib.hid (fun w => divisor_any way xB w (by omega) (by omega))
              have HDI := Lib.hid (fun w => divisor_any way xi w (by omega) (by omega))
              obtain ⟨d1, d2⟩ := dv_bd way xB (by omega) (by omega)
              obtain ⟨d3, d4⟩ := dv_bd way xi (by omega) (by omega)
              generalize dv way xB = dB at *
              generalize dv way xi = dI at *
              obtain ⟨p1, p2⟩ := prod_bd vi dB 1000000 2001 (by omega) (by omega) d1 d2 (by omega)
              obtain ⟨p3, p4⟩ := prod_bd vB dI 1000000 2001 (by omega) (by omega) d3 d4 (by omega)
              have bz : (B : Int) < (m : Int) := by omega
              have by0 : (0 : Int) ≤ (B : Int) := by omega
              clear hbn hb1
              by_cases hgt : vB * dI < vi * dB
              · have HB2 := Lib.hid (HTake'.out hgt)
                have k1 : IntKind.i64.wrap (vi * dB) = vi * dB := IntWalk.i64_in _ (by omega)
                have k2 : IntKind.i64.wrap (vB * dI) = vB * dI := IntWalk.i64_in _ (by omega)
                go_wp2
                go_quiet ((first | (go_at_call 29; (with_reducible exact quiet_eq (HDB.out _))) | (go_at_call 29; (with_reducible exact quiet_eq (HDI.out _)))))
                clear k1 k2
                go_wp2
                go_roundw
                case rel => exact ⟨i + 1, i, by omega, by go_num, rfl, HB2, by omega, by omega, Lib.hid (by obtain ⟨q, e⟩ := hq.out; rw [e, World.drewN_drewN]; exact ⟨_, rfl⟩)⟩
                case measure => simp [intOf]; omega
              · have HB2 := Lib.hid (HStay'.out (by omega))
                have hle : vi * dB ≤ vB * dI := by omega
                clear hgt
                have k1 : IntKind.i64.wrap (vi * dB) = vi * dB := IntWalk.i64_in _ (by omega)
                have k2 : IntKind.i64.wrap (vB * dI) = vB * dI := IntWalk.i64_in _ (by omega)
                go_wp2
                go_quiet ((first | (go_at_call 29; (with_reducible exact quiet_eq (HDB.out _))) | (go_at_call 29; (with_reducible exact quiet_eq (HDI.out _)))))
                clear k1 k2
                go_wp2
                go_roundw
                case rel => exact ⟨i + 1, B, by omega, by go_num, rfl, HB2, by omega, by omega, Lib.hid (by obtain ⟨q, e⟩ := hq.out; rw [e, World.drewN_drewN]; exact ⟨_, rfl⟩)⟩
                case measure => simp [intOf]; omega
        · have e : i = m := by omega
          subst e
          have hbs := hbest.out
          rw [show i = vs.length from HN.out.symm] at hbs
          obtain ⟨B, rfl, hBm⟩ := hbs.some HSV.out
          obtain ⟨hB, hnext⟩ := hinv.out.step HV.out hbs
          have hBi : B < i := by rw [← HN.out]; exact hB
          have cxB := HXR.out B hBi wo ⟨0, rfl⟩
          obtain ⟨b1, b2⟩ := HXB.out B hBi
          obtain ⟨q, hq'⟩ := hq.out
          clear hq
          subst hq'
          have hfz : wo.frozen? ⟨w.heap.size, B, none⟩ = false := hblk.out.frozen B
          have HNext := Lib.hid hnext
          have HBlk := Lib.hid (fun q v => show Blk ((wo.setCell ⟨w.heap.size, B, none⟩ (.int .i64 v)).drewN q) w.heap.size 3 (ic (xs.set B v)) from by
            rw [← ic_set]; exact (hblk.out.set_ B _).drewN q)
          have HBel := Lib.hid (fun q v => show Below w.heap.size w ((wo.setCell ⟨w.heap.size, B, none⟩ v).drewN q) from bel_dN (hbel.out.setCell (Nat.le_refl _) v))
          clear hnext hbs hB
          generalize xs.getD B 0 = xB at *
          go_wp2
          go_roundw
          case rel => exact ⟨r + 1, xs.set B (xB + 1), by omega, by go_num, HNext, Lib.hid (HBel.out _ _), Lib.hid (HBlk.out _ _)⟩
          case measure => simp [intOf]; omega
    · have e : r = n := by omega
      subst e
      go_wp2
      go_returns
      obtain ⟨bs, k, e⟩ := Mor.of_below hbel.out
      refine ⟨xs, w.heap.size, bs, k, by rw [HN.out]; rfl, e, hinv.out, ?_⟩
      rw [← e]; exact hblk.out.row

theorem deal_int (way nI : Int) (n : Nat) (A : Option Addr) (m cap : Nat) (vs : List Int) (w : World) (hn : nI = n) (hw1 : 0 ≤ way) (hw2 : way ≤ 2) (hr : Ri w A vs) (hm : vs.length = m) (hc : lcode nI vs = 0) :
    Calls Try.prog 15 #[.int .i64 way, .int .i64 nI, .slice A m cap] w (DealPost w way n vs) := by
  subst hn; exact deal_ok way n A m cap vs w hw1 hw2 hr hm hc

/-- what seats.Deal says -/
def dcode (way n : Int) (vs : List Int) : Int := if way < 0 ∨ 2 < way then 1 else lcode n vs

set_option maxHeartbeats 1600000 in
theorem deal_no (way n : Int) (A : Option Addr) (m cap : Nat) (vs : List Int) (w : World) (hr : Ri w A vs) (hm : vs.length = m) (hc : dcode way n vs ≠ 0) :
    Calls Try.prog 15 #[.int .i64 way, .int .i64 n, .slice A m cap] w fun e w' => e = .returned (.tuple #[.slice none 0 0, .int .i64 (dcode way n vs)]) ∧ w = w' := by
  by_cases hw : way < 0 ∨ 2 < way
  · have e : dcode way n vs = 1 := by unfold dcode; rw [if_pos hw]
    rw [e]
    have hw' : way < 0 ∨ (0 ≤ way ∧ 2 < way) := by omega
    clear hr hm hc hw e
    rcases hw' with h | ⟨h, h'⟩
    all_goals
      go_enter Try.func15, Try.ntmps15
      go_wp2
      go_returns
      exact ⟨rfl, rfl⟩
  · have e : dcode way n vs = lcode n vs := by unfold dcode; rw [if_neg hw]
    rw [e] at hc ⊢
    have HL := Lib.hid (slook_any n A m cap vs w hr hm)
    have w1 : 0 ≤ way := by omega
    have w2 : way ≤ 2 := by omega
    clear hr hm hw e
    generalize lcode n vs = c at *
    generalize lval n vs = l at *
    have c0 : (c == 0) = false := by simp; omega
    go_enter Try.func15, Try.ntmps15
    go_wp2_with (first | (go_at_call 28; (with_reducible refine HL.out.mono ?_); rintro e w1 ⟨rfl, rfl⟩))
    go_returns
    exact ⟨rfl, rfl⟩

end Go.Proofs.Ytmpcnipngepfgaa
