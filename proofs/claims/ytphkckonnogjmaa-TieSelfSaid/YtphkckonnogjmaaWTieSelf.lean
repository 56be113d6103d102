/- The walk of talkeep.TieSelf. -/
import Derived.Test.YtphkckonnogjmaaOwnPr
import Derived.Test.YtphkckonnogjmaaWithinA
namespace Go.Proofs.Ytphkckonnogjmaa.tieSelf
open Go.ChangeShapes Go.WideShapes Go.ChangeAt Go.RowKit Stb
set_option linter.unusedVariables false

theorem beg : tieF [(0, 1)] [(0, 2)] 9 = [-1] := by decide
theorem beg_code : tiec [(0, 1)] [(0, 2)] 9 = 0 := by decide
/-- the same items, dearer -/
def dear (xs : List Pr) : List Pr := xs.map fun p => (p.1, p.2 + 500000000000)
theorem dear_at {xs : List Pr} {k : Nat} (h : k < xs.length) : px (dear xs) k = px xs k ∧ py (dear xs) k = py xs k + 500000000000 := by
  unfold dear px py
  rw [List.getD_eq_getElem?_getD, List.getElem?_map, List.getD_eq_getElem?_getD, List.getElem?_eq_getElem h]
  exact ⟨rfl, rfl⟩
theorem dear_take (xs : List Pr) (k : Nat) (h : k < xs.length) : flat pp ((dear xs).take (k + 1)) = flat pp ((dear xs).take k) ++ [.int .i64 (px xs k), .int .i64 (py xs k + 500000000000)] := by
  have hl : k < (dear xs).length := by unfold dear; rw [List.length_map]; exact h
  rw [List.take_succ_eq_append_getElem hl, flat_snoc]
  congr 1
  obtain ⟨e1, e2⟩ := dear_at h
  rw [← e1, ← e2]
  unfold pp px py
  rw [List.getD_eq_getElem?_getD, List.getElem?_eq_getElem hl]; rfl
theorem itOk_of {xs : List Pr} {n : Nat} (h : ∀ k, k < n → 0 ≤ px xs k ∧ px xs k ≤ 292193 ∧ 1 ≤ py xs k ∧ py xs k ≤ 1000000000000) : itOk xs n = true := by
  unfold itOk
  rw [List.all_eq_true]
  intro k hk
  have := h k (List.mem_range.1 hk)
  unfold itAt
  simp; omega
theorem dear_code {a : List Pr} {v : Int} (hc : tiec a a v = 0) (hd : ∀ k, k < a.length → py a k ≤ 500000000000) : tiec a (dear a) v = 0 := by
  obtain ⟨c1, _, c3, c4⟩ := tiec_zero hc
  obtain ⟨l40, ok⟩ := itc_zero' c1
  have e : itc (dear a) = 0 := by
    have hl : (dear a).length = a.length := by simp [dear]
    unfold itc
    rw [hl, if_neg (by omega), if_pos]
    refine itOk_of fun k hk => ?_
    obtain ⟨e1, e2⟩ := dear_at hk
    have h1 := itOk_at ok hk
    have h2 := hd k hk
    rw [e1, e2]; omega
  unfold tiec
  rw [if_neg (by simp [c1]), if_neg (by simp [e]), if_neg (by omega)]

set_option maxRecDepth 100000 in
set_option maxHeartbeats 6400000 in
theorem tieSelf_walk (w : World) (A : Option Addr) (len cap : Nat) (xs : List Pr) (hp : IsPr w A len cap xs) (v0 : Int) (wv : (Lit.int .i64 v0).wf = true) :
    Calls Try.prog 11 #[.slice A len cap, .int .i64 v0] w fun e w' => e = .returned (.bool true) ∧ Below w.heap.size w w' := by
  obtain ⟨i0, hi, hz0, hz1, hz2⟩ := info_parts info_item
  have HRP := Lib.hid hp.pi
  have HNP := Lib.hid hp.length
  have HMXP := Lib.hid (Nat.le_trans hp.le hp.max)
  have hcap := hp.le
  clear hp
  have V1 := wi_lo v0 1000 (by omega)
  have V2 := wi_hi v0 1000 (by omega)
  have HW := Lib.hid (fun w => within_any v0 1000 w (by omega) (by omega))
  generalize wi v0 1000 = v at *
  by_cases hc : tiec xs xs v = 0
  · have l40 : len ≤ 40 := by have := (itc_zero' (tiec_zero hc).1).1; have := HNP.out; omega
    have HIt := Lib.hid (fun k (h : k < len) => itOk_at (itc_zero' (tiec_zero hc).1).2 (k := k) (by have := HNP.out; omega))
    have HT := Lib.hid (fun w h => tie_ok A len cap xs A len cap xs v w h h HNP.out HNP.out hc)
    have HT2 := Lib.hid (fun (hd : ∀ k, k < len → py xs k ≤ 500000000000) B c w h h2 => tie_ok A len cap xs B len c (dear xs) v w h h2 HNP.out (by simp [dear, HNP.out]) (dear_code hc (fun k hk => hd k (by rw [← HNP.out]; exact hk))))
    have HLx := Lib.hid (show (tieF xs xs v).length = len by rw [tieF_len, HNP.out])
    have HLy := Lib.hid (show (tieF xs (dear xs) v).length = len by rw [tieF_len, HNP.out])
    have HSf := Lib.hid (show ((tied (tieF xs xs v) : Nat) : Int) = (len : Int) by rw [tieF_self xs v V1, HNP.out])
    have HNo := Lib.hid (fun (hd : ∀ k, k < len → py xs k ≤ 500000000000) => show ((tied (tieF xs (dear xs) v) : Nat) : Int) = 0 by
      rw [tieF_none xs (dear xs) v (fun i k h1 h2 => by
        have h2' : k < xs.length := by simpa [dear] using h2
        rw [(dear_at h2').2]
        have a1 := hd i (by rw [← HNP.out]; exact h1)
        have a2 := HIt.out k (by rw [← HNP.out]; exact h2')
        omega)]; rfl)
    clear hc
    go_enter Try.func11, Try.ntmps11
    go_wp2_with fail
    refine (tie_ok _ 1 _ [(0, 1)] _ 1 _ [(0, 2)] 9 _ ((pi_new [(0, 1)] rfl rfl).mor (Mor.refl _).alloc) (pi_new [(0, 2)] (by rw [size_alloc]) rfl) rfl rfl beg_code).mono ?_
    rintro e w1 ⟨g0, rfl, hm0, hr⟩
    have HM0 := Lib.hid (show Mor w w1 from Mor.trans' (by repeat (first | exact Mor.refl _ | apply Mor.alloc)) hm0)
    rw [beg] at hr
    have HR := Lib.hid hr
    clear hm0 hr
    go_wp2_with fail
    refine (equal_yes _ _ _ _ _ _ 1 [-1] _ (HR.out.alloc) (row_lit [-1] (by simp) rfl) rfl (by omega)).mono ?_
    rintro e w2 ⟨rfl, m0, hw2⟩
    have HM2 := Lib.hid (show Mor w w2 by rw [hw2]; exact HM0.out.alloc.drewN)
    clear HR hw2 HM0
    go_wp2_with (first
      | (go_at_call 19; (with_reducible refine (HW.out _).mono ?_); rintro e w1 ⟨rfl, rfl⟩))
    refine (HT.out _ (HRP.out.mor HM2.out)).mono ?_
    rintro e w3 ⟨g3, rfl, hm3, hr3⟩
    rw [HNP.out]
    have HM3 := Lib.hid (HM2.out.trans' hm3)
    have HR3 := Lib.hid hr3
    clear hm3 hr3 HM2 HT
    go_wp2_with fail
    have HTd := Lib.hid (fun w h => tied_any (some ⟨g3, 0, none⟩) len len (tieF xs xs v) w h HLx.out (by omega))
    rw [HSf.out] at HTd
    have HTe := Lib.hid (fun (hd : ∀ k, k < len → py xs k ≤ 500000000000) g w (h : Ri w (some ⟨g, 0, none⟩) (tieF xs (dear xs) v)) => by
      have := tied_any (some ⟨g, 0, none⟩) len len (tieF xs (dear xs) v) w h HLy.out (by omega)
      rw [HNo.out hd] at this
      exact this)
    go_loopw [9, 45] (fun u i wr => ∃ k : Nat, k ≤ len ∧ i = .int .i64 k ∧ Hid (∀ j, j < k → py xs j ≤ 500000000000) ∧ Hid (wr.ownsRow w3.heap.size 28 2 u k (flat pp ((dear xs).take k))) ∧ Hid (Below w3.heap.size w3 wr)) (fun _ i _ => len - (intOf i).toNat)
    case atStart => exact ⟨0, Nat.zero_le _, rfl, Lib.hid (fun j hj => absurd hj (Nat.not_lt_zero _)), Lib.hid (World.ownsRow_nil _ _ _ _), Lib.hid (Below.refl _ _)⟩
    case round =>
      obtain ⟨k, hk, rfl, HD, HO, HX⟩ := hrel
      by_cases hlt : k < len
      · have hki : (k : Int) < (len : Int) := by omega
        have hk0 : (0 : Int) ≤ (k : Int) := by omega
        obtain ⟨x, hA, hxb, c1, c2⟩ := (HRP.out.mor (HM3.out.trans' (Mor.of_below HX.out))).at_ k (by rw [HNP.out]; exact hlt)
        subst hA
        have HSt := Lib.hid (dear_take xs k (by rw [HNP.out]; exact hlt))
        have HDn := Lib.hid (fun h : py xs k ≤ 500000000000 => show ∀ j, j < k + 1 → py xs j ≤ 500000000000 from fun j hj => by
          rcases Nat.lt_or_ge j k with c | c
          · exact HD.out j c
          · obtain rfl : j = k := by omega
            exact h)
        obtain ⟨i1, i2, i3, i4⟩ := HIt.out k hlt
        generalize px xs k = d at *
        generalize py xs k = a at *
        by_cases ha : 500000000000 < a
        · have HF := Lib.hid (HTd.out (wr.alloc (.cells #[.int .i64 d, .int .i64 a] 28)) (Ri.of_row (HR3.out.mor (Mor.of_below HX.out).alloc)))
          have HMF := Lib.hid (show Mor w (wr.alloc (.cells #[.int .i64 d, .int .i64 a] 28)) from HM3.out.trans' (Mor.of_below HX.out).alloc)
          go_wp2_with (first | (go_at_call 25; (with_reducible refine (HF.out).mono ?_); rintro e w4 ⟨rfl, rfl⟩))
          go_ret
          exact ⟨rfl, HMF.out.below⟩
        · have HDm := Lib.hid (HDn.out (by omega))
          go_wp2_with (at_builtin; refine wpList_append_own _ rfl _ _ 22 rfl w3.heap.size 28 i0 (.agg #[.int .i64 0, .int .i64 0]) 2 16 Try.underlying22 hi hz0 hz1 hz2 rfl (by decide) _ _ _ rfl ((HO.out.alloc _).alloc _) ⟨wr.heap.size + 1, 0, none⟩ 1 1 [.int .i64 d, .int .i64 (a + 500000000000)] rfl rfl ?_ ?_ ?_ ?_ ?_ ?_)
          case refine_6 =>
            intro v' w1 hown' hgrow _
            have HO' := Lib.hid hown'
            have HX' := Lib.hid (own_step2 HO.out HX.out hgrow)
            clear hown' hgrow
            go_wp2
            go_roundw
            case rel => exact ⟨k + 1, by omega, by go_num, HDm, Lib.hid (by rw [HSt.out]; exact HO'.out), HX'⟩
            case measure => simp [intOf]; omega
          all_goals try (first | (exact rfl) | (exact ⟨rfl, rfl⟩) | (intro u hu; simp at hu; rcases hu with rfl | rfl <;> rfl) | (unfold maxLen; omega) | omega | (have := HX.out.size; simp; omega) | (intro j u hj; match j, hj with | 0, hj => simp at hj; subst hj; simp [Addr.add] | 1, hj => simp at hj; subst hj; simp [Addr.add]))
      · obtain rfl : k = len := by omega
        obtain ⟨A2, c2, rfl, hc2, _, _⟩ := own_shape HO.out
        have HP2 := Lib.hid (own_pi HO.out)
        rw [List.take_of_length_le (by simp [dear, HNP.out])] at HP2
        have HMr := Lib.hid (HM3.out.trans' (Mor.of_below HX.out))
        have HR4 := Lib.hid (HR3.out.mor (Mor.of_below HX.out))
        have HTT := Lib.hid (HT2.out HD.out A2 c2 wr (HRP.out.mor HMr.out) HP2.out)
        clear HO HP2 HT2 HX
        go_wp2_with fail
        refine HTT.out.mono ?_
        rintro e w5 ⟨g5, rfl, hm5, hr5⟩
        rw [HNP.out]
        have HM5 := Lib.hid (HMr.out.trans' hm5)
        have HR5 := Lib.hid (HTd.out w5 (Ri.of_row (HR4.out.mor hm5)))
        have HE5 := Lib.hid (HTe.out HD.out g5 w5 (Ri.of_row hr5))
        clear hm5 hr5 HTT
        go_wp2_with fail
        refine HR5.out.mono ?_
        rintro e w6 ⟨rfl, rfl⟩
        go_wp2_with fail
        refine HE5.out.mono ?_
        rintro e w6 ⟨rfl, rfl⟩
        go_wp2_with fail
        go_ret
        exact ⟨rfl, HM5.out.below⟩
  · have HF := Lib.hid (fun w h => tie_no A len cap xs A len cap xs v w h h HNP.out HNP.out HMXP.out HMXP.out hc)
    have hc2 : (tiec xs xs v == 0) = false := by simpa using hc
    generalize tiec xs xs v = c at *
    go_enter Try.func11, Try.ntmps11
    go_wp2_with fail
    refine (tie_ok _ 1 _ [(0, 1)] _ 1 _ [(0, 2)] 9 _ ((pi_new [(0, 1)] rfl rfl).mor (Mor.refl _).alloc) (pi_new [(0, 2)] (by rw [size_alloc]) rfl) rfl rfl beg_code).mono ?_
    rintro e w1 ⟨g0, rfl, hm0, hr⟩
    have HM0 := Lib.hid (show Mor w w1 from Mor.trans' (by repeat (first | exact Mor.refl _ | apply Mor.alloc)) hm0)
    rw [beg] at hr
    have HR := Lib.hid hr
    clear hm0 hr
    go_wp2_with fail
    refine (equal_yes _ _ _ _ _ _ 1 [-1] _ (HR.out.alloc) (row_lit [-1] (by simp) rfl) rfl (by omega)).mono ?_
    rintro e w2 ⟨rfl, m0, hw2⟩
    have HM2 := Lib.hid (show Mor w w2 by rw [hw2]; exact HM0.out.alloc.drewN)
    clear HR hw2 HM0
    go_wp2_with (first
      | (go_at_call 19; (with_reducible refine (HW.out _).mono ?_); rintro e w1 ⟨rfl, rfl⟩))
    refine (HF.out _ (HRP.out.mor HM2.out)).mono ?_
    rintro e w3 ⟨rfl, hm3⟩
    have HM3 := Lib.hid (HM2.out.trans' hm3)
    go_wp2_with fail
    go_ret
    exact ⟨rfl, HM3.out.below⟩

end Go.Proofs.Ytphkckonnogjmaa.tieSelf
