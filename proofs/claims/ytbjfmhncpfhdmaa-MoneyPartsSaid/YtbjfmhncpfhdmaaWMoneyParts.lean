/- The walk of talkeep.MoneyParts. -/
import Derived.Test.YtbjfmhncpfhdmaaSplD
import Derived.Test.YtbjfmhncpfhdmaaShareA
import Derived.Test.YtbjfmhncpfhdmaaWeights
namespace Go.Proofs.Ytbjfmhncpfhdmaa.moneyParts
open Go.ChangeShapes Go.WideShapes Go.ChangeAt Go.RowKit Stb
set_option linter.unusedVariables false

theorem share_begun (w : World) : Calls Try.prog 10 #[.int .i64 3, .int .i64 500000, .int .i64 1] w fun e w' => e = .returned (.tuple #[.int .i64 2, .int .i64 0]) ∧ ∃ k, w' = w.drewN k := by
  have h := share_ok 3 500000 1 w (by omega) (by omega) (by omega) (by omega) (by omega) (by omega)
  rw [show rnd (3 * 500000) 1000000 1 = 2 by decide] at h
  exact h
/-- the shares of the first k parts -/
def shs (xs : List Int) (r way : Int) (k : Nat) : Int := ((xs.take k).map fun p => rnd (p * r) 1000000 way).sum
theorem shs_succ (xs : List Int) (r way : Int) (k : Nat) (h : k < xs.length) : shs xs r way (k + 1) = shs xs r way k + rnd (xs.getD k 0 * r) 1000000 way := by
  unfold shs
  rw [List.take_succ_eq_append_getElem h, List.map_append, List.sum_append_int]
  rw [List.getD_eq_getElem?_getD, List.getElem?_eq_getElem h]
  simp
theorem sum_take_le (xs : List Int) (h : ∀ x ∈ xs, 0 ≤ x) (k : Nat) : 0 ≤ (xs.take k).sum ∧ (xs.take k).sum ≤ xs.sum := by
  have e : xs.sum = (xs.take k).sum + (xs.drop k).sum := by rw [← List.sum_append_int, List.take_append_drop]
  have a := (getD_le_sum (l := xs.take k) (fun x hx => h x (List.mem_of_mem_take hx)) 0).2
  have b := (getD_le_sum (l := xs.drop k) (fun x hx => h x (List.mem_of_mem_drop hx)) 0).2
  omega
theorem shs_bd (xs : List Int) (r way : Int) (h1 : 0 ≤ r) (h2 : r ≤ 1000000) (h : ∀ x ∈ xs, 0 ≤ x) (k : Nat) (hk : k ≤ xs.length) : 0 ≤ shs xs r way k ∧ shs xs r way k ≤ (xs.take k).sum := by
  induction k with
  | zero => simp [shs]
  | succ k ih =>
    obtain ⟨a, b⟩ := ih (by omega)
    rw [shs_succ _ _ _ _ (by omega), List.take_succ_eq_append_getElem (by omega), List.sum_append_int]
    have e : xs.getD k 0 = xs[k] := by rw [List.getD_eq_getElem?_getD, List.getElem?_eq_getElem (by omega)]; rfl
    have := rnd_share xs[k] r way (h _ (List.getElem_mem _)) h1 h2
    rw [e]
    simp only [List.sum_cons, List.sum_nil]
    omega
theorem shs_near (xs : List Int) (r way : Int) (k : Nat) (hk : k ≤ xs.length) (h0 : 0 < k) : 1000000 * shs xs r way k < (xs.take k).sum * r + 1000000 * k ∧ (xs.take k).sum * r - 1000000 * k < 1000000 * shs xs r way k := by
  induction k with
  | zero => omega
  | succ k ih =>
    have e : xs.getD k 0 = xs[k] := by rw [List.getD_eq_getElem?_getD, List.getElem?_eq_getElem (by omega)]; rfl
    have h1 := rnd_near (xs.getD k 0 * r) 1000000 way (by omega)
    rw [shs_succ _ _ _ _ (by omega), List.take_succ_eq_append_getElem (by omega), List.sum_append_int]
    simp only [List.sum_cons, List.sum_nil, Int.add_zero]
    rw [← e, Int.add_mul, Int.mul_add]
    rcases Nat.eq_zero_or_pos k with z | z
    · subst z
      simp only [shs, List.take_zero, List.map_nil, List.sum_nil, Int.zero_mul]
      omega
    · have := ih (by omega) z
      omega

set_option maxRecDepth 100000 in
set_option maxHeartbeats 6400000 in
theorem moneyParts_walk (w : World) (a0 : Int) (wa : (Lit.int .i64 a0).wf = true) (r0 : Int) (wr0 : (Lit.int .i64 r0).wf = true) (A : Option Addr) (len cap : Nat) (zs : List Int) (hz : IsRow .i64 w A len cap zs) (y0 : Int) (wy : (Lit.int .i64 y0).wf = true) :
    Calls Try.prog 3 #[.int .i64 a0, .int .i64 r0, .slice A len cap, .int .i64 y0] w fun e w' => e = .returned (.bool true) ∧ Below w.heap.size w w' := by
  obtain ⟨hri, hlen, hcap, hmax, hwf, hnil⟩ := Ri.of_isRow hz
  generalize zs.take len = vs at *
  have HRI := Lib.hid hri
  have HLEN := Lib.hid hlen
  have hml : (len : Int) ≤ 9223372036854775807 := by unfold maxLen at hmax; omega
  have HWt := Lib.hid (fun w (h : Ri w A vs) => weights_any A len cap vs w h HLEN.out hcap (Nat.le_trans hcap hmax))
  clear hri hz hwf hmax
  have a1 := wi_lo a0 1000000000001 (by omega)
  have a2 := wi_hi a0 1000000000001 (by omega)
  have HWa := Lib.hid (fun w => within_any a0 1000000000001 w (by omega) (by omega))
  generalize wi a0 1000000000001 = a at *
  have r1 := wi_lo r0 1000001 (by omega)
  have r2 := wi_hi r0 1000001 (by omega)
  have HWr := Lib.hid (fun w => within_any r0 1000001 w (by omega) (by omega))
  generalize wi r0 1000001 = r at *
  have y1 := wi_lo y0 4 (by omega)
  have y2 := wi_hi y0 4 (by omega)
  have HWy := Lib.hid (fun w => within_any y0 4 w (by omega) (by omega))
  generalize wi y0 4 = y at *
  have hBD := wl_bd vs
  obtain ⟨n, hn⟩ : ∃ n, (wl vs).length = n := ⟨_, rfl⟩
  have hn40 : n ≤ 40 := by rw [← hn, wl_len]; omega
  obtain ⟨ws, hws⟩ : ∃ ws, ws = wl vs := ⟨_, rfl⟩
  rw [← hws] at hBD hn
  have HWS := Lib.hid hws
  clear hws
  have HN := Lib.hid hn
  have hw1 : ∀ x ∈ ws, 0 ≤ x ∧ x ≤ 1000000 := fun x hx => by have := hBD x hx; omega
  by_cases hc : byc a ws = 0
  · have HK := Lib.hid (byk hc)
    have HB := Lib.hid (fun A2 c w (h : Ri w A2 ws) => by_any a A2 n c ws w h HN.out hc)
    have HL := Lib.hid (show (byl a ws).length = n by rw [byl_len, hn])
    have hn1 : 1 ≤ n := by
      rcases Nat.eq_zero_or_pos n with e | e
      · exfalso
        have := HK.out.pos
        rw [List.eq_nil_of_length_eq_zero (by omega : ws.length = 0)] at this
        exact absurd this (by decide)
      · exact e
    have HP0 := Lib.hid (show ∀ x ∈ byl a ws, 0 ≤ x from fun x hx => by
      obtain ⟨i, hi, e⟩ := List.getElem_of_mem hx
      have := HK.out.nonneg a1 i (by rw [← byl_len a ws]; exact hi)
      rw [List.getD_eq_getElem?_getD, List.getElem?_eq_getElem hi, Option.getD_some, e] at this
      exact this)
    have HBd := Lib.hid (fun k (hk : k ≤ n) => show 0 ≤ shs (byl a ws) r y k ∧ shs (byl a ws) r y k ≤ 1000000000000 from by
      have h1 := shs_bd (byl a ws) r y r1 (by omega) HP0.out k (by rw [HL.out]; exact hk)
      have h2 := sum_take_le (byl a ws) HP0.out k
      rw [HK.out.sum] at h2
      omega)
    have HPb := Lib.hid (fun k => show 0 ≤ (byl a ws).getD k 0 ∧ (byl a ws).getD k 0 ≤ 1000000000000 from by
      have h1 := (getD_le_sum HP0.out k).1
      have h2 : 0 ≤ (byl a ws).getD k 0 := by
        rcases Nat.lt_or_ge k (byl a ws).length with c | c
        · exact HP0.out _ (getD_mem _ k c)
        · rw [List.getD_eq_getElem?_getD, List.getElem?_eq_none c]; exact Int.le_refl 0
      rw [HK.out.sum] at h1
      omega)
    have HSS := Lib.hid (fun k (hk : k < n) => shs_succ (byl a ws) r y k (by rw [HL.out]; exact hk))
    have HSB := Lib.hid (fun k => rnd_share ((byl a ws).getD k 0) r y (HPb.out k).1 r1 (by omega))
    have HFin := Lib.hid (show shs (byl a ws) r y n - rnd (a * r) 1000000 y ≤ n ∧ rnd (a * r) 1000000 y - shs (byl a ws) r y n ≤ n from by
      have h1 := shs_near (byl a ws) r y n (by rw [HL.out]; exact Nat.le_refl _) hn1
      rw [List.take_of_length_le (by rw [HL.out]; exact Nat.le_refl _), HK.out.sum] at h1
      have h2 := rnd_near (a * r) 1000000 y (by omega)
      omega)
    have HRa := Lib.hid (rnd_share a r y a1 r1 (by omega))
    clear hc hn hw1 hBD
    go_enter Try.func3, Try.ntmps3
    go_wp2_with (first
      | (go_at_call 10; (with_reducible refine (share_begun _).mono ?_); rintro e w1 ⟨rfl, k1, rfl⟩))
    refine (HWt.out _ (HRI.out.mor (by repeat (first | exact Mor.refl _ | apply Mor.alloc | apply Mor.more | apply Mor.drewN | apply Mor.drew)))).mono ?_
    rintro e w2 ⟨v, rfl, hown, hmor⟩
    rw [← HWS.out, HN.out] at hown
    have HM2 := Lib.hid (show Mor w w2 from Mor.trans (by repeat (first | exact Mor.refl _ | apply Mor.alloc | apply Mor.more | apply Mor.drewN | apply Mor.drew)) hmor)
    obtain ⟨A2, c2, rfl, hc2, _, HGA⟩ := own_shape hown
    have HRW := Lib.hid (own_ri hown)
    clear hown hmor HWt HRI
    go_wp2_with (first
      | (go_at_call 12; (with_reducible refine (HWr.out _).mono ?_); rintro e w1 ⟨rfl, rfl⟩)
      | (go_at_call 12; (with_reducible refine (HWy.out _).mono ?_); rintro e w1 ⟨rfl, rfl⟩)
      | (go_at_call 12; (with_reducible refine (HWa.out _).mono ?_); rintro e w1 ⟨rfl, rfl⟩))
    refine (HB.out _ _ _ HRW.out).mono ?_
    rintro e w3 ⟨g, rfl, hm3, hr⟩
    rw [HN.out]
    have HXR := Lib.hid hr
    have HM3 := Lib.hid (Mor.trans HM2.out hm3)
    clear hr hm3 HRW HM2
    have HSh := Lib.hid (fun w => share_ok a r y w (by omega) (by omega) r1 (by omega) y1 (by omega))
    go_wp2_with (first
      | (go_at_call 10; (with_reducible refine (HSh.out _).mono ?_); rintro e w1 ⟨rfl, k1, rfl⟩))
    generalize rnd (a * r) 1000000 y = ra at *
    go_loopw [14, 59] (fun nv i wr => ∃ k : Nat, k ≤ n ∧ i = .int .i64 k ∧ nv = .int .i64 (shs (byl a ws) r y k) ∧ Hid (Mor w wr) ∧ Hid (Row wr g 0 (byl a ws))) (fun _ i _ => n - (intOf i).toNat)
    case atStart => exact ⟨0, by omega, rfl, rfl, Lib.hid HM3.out.drewN, Lib.hid HXR.out⟩
    case round =>
      obtain ⟨k, hk, rfl, rfl, HMk, HRk⟩ := hrel
      obtain ⟨q1, q2⟩ := HBd.out k hk
      by_cases hlt : k < n
      · have hki : (k : Int) < (n : Int) := by omega
        have hk0 : (0 : Int) ≤ (k : Int) := by omega
        have cx := HRk.out.get k (by rw [HL.out]; exact hlt)
        rw [Nat.zero_add] at cx
        have HS := Lib.hid (HSS.out k hlt)
        obtain ⟨p1, p2⟩ := HPb.out k
        obtain ⟨b1, b2⟩ := HSB.out k
        have HSk := Lib.hid (fun w => share_ok ((byl a ws).getD k 0) r y w (by omega) p2 r1 (by omega) y1 (by omega))
        generalize shs (byl a ws) r y k = t at *
        generalize hx : (byl a ws).getD k 0 = x at *
        generalize rnd (x * r) 1000000 y = z at *
        clear hx
        go_wp2_with (first
          | (go_at_call 10; (with_reducible refine (HSk.out _).mono ?_); rintro e w1 ⟨rfl, k1, rfl⟩))
        go_roundw
        case rel => exact ⟨k + 1, by omega, by go_num, by rw [HS.out], Lib.hid HMk.out.drewN, Lib.hid HRk.out⟩
        case measure => simp [intOf]; omega
      · obtain rfl : k = n := by omega
        obtain ⟨f1, f2⟩ := HFin.out
        obtain ⟨ra1, ra2⟩ := HRa.out
        generalize shs (byl a ws) r y k = t at *
        go_wp2
        go_ret
        exact ⟨ret_b (by first | rfl | (simp; done) | (simp; omega)), HMk.out.below⟩
  · have HB := Lib.hid (fun A2 c w (h : Ri w A2 ws) => by_no a A2 n c ws w h HN.out (by unfold maxLen; omega) hc)
    have hc2 : (byc a ws == 0) = false := by simpa using hc
    generalize byc a ws = c at *
    clear hc hn hw1 hBD
    go_enter Try.func3, Try.ntmps3
    go_wp2_with (first
      | (go_at_call 10; (with_reducible refine (share_begun _).mono ?_); rintro e w1 ⟨rfl, k1, rfl⟩))
    refine (HWt.out _ (HRI.out.mor (by repeat (first | exact Mor.refl _ | apply Mor.alloc | apply Mor.more | apply Mor.drewN | apply Mor.drew)))).mono ?_
    rintro e w2 ⟨v, rfl, hown, hmor⟩
    rw [← HWS.out, HN.out] at hown
    have HM2 := Lib.hid (show Mor w w2 from Mor.trans (by repeat (first | exact Mor.refl _ | apply Mor.alloc | apply Mor.more | apply Mor.drewN | apply Mor.drew)) hmor)
    obtain ⟨A2, c2, rfl, hc2, _, HGA⟩ := own_shape hown
    have HRW := Lib.hid (own_ri hown)
    clear hown hmor HWt HRI
    go_wp2_with (first
      | (go_at_call 12; (with_reducible refine (HWr.out _).mono ?_); rintro e w1 ⟨rfl, rfl⟩)
      | (go_at_call 12; (with_reducible refine (HWy.out _).mono ?_); rintro e w1 ⟨rfl, rfl⟩)
      | (go_at_call 12; (with_reducible refine (HWa.out _).mono ?_); rintro e w1 ⟨rfl, rfl⟩))
    refine (HB.out _ _ _ HRW.out).mono ?_
    rintro e w3 ⟨rfl, hm3⟩
    have HM3 := Lib.hid (Mor.trans HM2.out hm3)
    go_wp2_with fail
    go_ret
    exact ⟨rfl, HM3.out.below⟩

end Go.Proofs.Ytbjfmhncpfhdmaa.moneyParts
