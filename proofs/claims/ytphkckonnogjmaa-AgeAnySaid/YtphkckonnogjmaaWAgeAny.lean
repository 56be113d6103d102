/- The walk of talkeep.AgeAny. -/
import Derived.Test.YtphkckonnogjmaaPayE
import Derived.Test.YtphkckonnogjmaaAgeC
import Derived.Deep.DeepCutAuto
import Derived.Deep.RegionWith
namespace Go.Proofs.Ytphkckonnogjmaa.ageAny
open Go.ChangeShapes Go.WideShapes Go.ChangeAt Go.RowKit Stb
set_option linter.unusedVariables false

theorem beg_c : payc [(2, 4), (1, 4)] 4 = 0 := by decide
theorem beg_v : pay (byDay [(2, 4), (1, 4)]) 4 = [(2, 4)] := by decide
theorem beg_r : lft (byDay [(2, 4), (1, 4)]) 4 = 0 := by decide
set_option maxHeartbeats 400000 in
theorem aday_any (n : Int) (w : World) : Calls Try.prog 23 #[.int .i64 n] w fun e w' => e = .returned (.int .i64 (wi n 292194)) ∧ w = w' := by
  have H := Lib.hid (fun w => within_any n 292194 w (by omega) (by omega))
  go_enter Try.func23, Try.ntmps23
  go_wp2_with (go_at_call 19; (with_reducible refine (H.out _).mono ?_); rintro e w1 ⟨rfl, rfl⟩)
  go_ret
  exact ⟨rfl, rfl⟩

/-- the items, turned round by q -/
def rot (xs : List Pr) (q : Nat) : List Pr := xs.drop q ++ xs.take q
theorem rot_len (xs : List Pr) (q : Nat) : (rot xs q).length = xs.length := by
  unfold rot; rw [List.length_append, List.length_drop, List.length_take]; omega
theorem rot_perm (xs : List Pr) (q : Nat) : xs.Perm (rot xs q) := by
  unfold rot
  have := (List.perm_append_comm (l₁ := xs.drop q) (l₂ := xs.take q)).symm
  rwa [List.take_append_drop] at this
theorem rot_take (xs : List Pr) (q k : Nat) (hq : q < xs.length) (hk : k < xs.length) : (rot xs q).take (k + 1) = (rot xs q).take k ++ [ge xs ((k + q) % xs.length)] := by
  rw [List.take_succ_eq_append_getElem (by rw [rot_len]; exact hk)]
  congr 1
  have e : (rot xs q)[k]? = some (ge xs ((k + q) % xs.length)) := by
    unfold rot
    rw [List.getElem?_append]
    by_cases c : k < xs.length - q
    · rw [if_pos (by rw [List.length_drop]; exact c), List.getElem?_drop, Nat.mod_eq_of_lt (by omega), show k + q = q + k by omega]
      exact ge_some (by omega)
    · have hm : (k + q) % xs.length = k + q - xs.length := by
        rw [Nat.mod_eq_sub_mod (by omega), Nat.mod_eq_of_lt (by omega)]
      rw [if_neg (by rw [List.length_drop]; exact c), List.length_drop, List.getElem?_take, if_pos (by omega), hm, show k - (xs.length - q) = k + q - xs.length by omega]
      exact ge_some (by omega)
  rw [List.getElem?_eq_getElem (by rw [rot_len]; exact hk)] at e
  injection e with e
  rw [e]
theorem flat_snoc' (a : List Pr) (p : Pr) : flat pp (a ++ [p]) = flat pp a ++ [.int .i64 p.1, .int .i64 p.2] := by
  unfold flat; rw [List.flatMap_append]; rfl
theorem bd_ok : bdUp [3, 10, 20] 3 = 0 := by decide
theorem agec_ok {xs : List Pr} {t : Int} (h1 : xs.length ≤ 40) (h2 : ∀ p ∈ xs, okP p) (h3 : 0 ≤ t) (h4 : t ≤ 292193) : agec xs t [3, 10, 20] = 0 := by
  unfold agec
  rw [if_neg (by rw [(itc_iff xs).2 ⟨h1, h2⟩]; simp), if_neg (by omega), if_neg (by simp)]
  exact bd_ok

set_option maxRecDepth 100000 in
set_option maxHeartbeats 6400000 in
theorem ageAny_walk (w : World) (A : Option Addr) (len cap : Nat) (xs : List Pr) (hp : IsPr w A len cap xs) (tn : Int) (wt : (Lit.int .i64 tn).wf = true) (a : Int) (wa : (Lit.int .i64 a).wf = true) (td : Int) (wd : (Lit.int .i64 td).wf = true) :
    Calls Try.prog 7 #[.slice A len cap, .int .i64 tn, .int .i64 a, .int .i64 td] w fun e w' => e = .returned (.bool true) ∧ Below w.heap.size w w' := by
  obtain ⟨i0, hi, hz0, hz1, hz2⟩ := info_parts info_item
  have HRP := Lib.hid hp.pi
  have HNP := Lib.hid hp.length
  have HNil := Lib.hid hp.nil
  have HMXP := Lib.hid (Nat.le_trans hp.le hp.max)
  clear hp wt wa wd
  have a1 := wi_lo a 10000 (by omega)
  have a2 := wi_hi a 10000 (by omega)
  have d1 := wi_lo td 292194 (by omega)
  have d2 := wi_hi td 292194 (by omega)
  have HWa := Lib.hid (fun w => within_any a 10000 w (by omega) (by omega))
  have HWd := Lib.hid (fun w => aday_any td w)
  generalize wi a 10000 = b at *
  generalize wi td 292194 = t at *
  by_cases hc : payc xs b = 0
  · obtain ⟨c1, c2, -, -⟩ := payc_zero hc
    have l40 : len ≤ 40 := by have := HNP.out; omega
    have HOk := Lib.hid c2
    have HL40 := Lib.hid c1
    have HPa := Lib.hid (fun w' (h : Mor w w') => pay_yes A len cap xs b w' (HRP.out.mor h) HNP.out HNil.out hc)
    clear hc c1 c2
    go_enter Try.func7, Try.ntmps7
    go_wp2_with fail
    refine (pay_yes _ 2 2 [(2, 4), (1, 4)] 4 _ (pi_lit2 2 4 1 4 rfl) rfl (by simp) beg_c).mono ?_
    rintro e w3 ⟨B, m, cap', rfl, hm, hpi, hlen, hB⟩
    rw [beg_v] at hlen hpi
    rw [beg_r]
    obtain rfl : m = 1 := hlen.symm
    have HM := Lib.hid (show Mor w w3 from Mor.trans' (by repeat (first | exact Mor.refl _ | apply Mor.alloc)) hm)
    have HX1 := Lib.hid hpi
    clear hm hpi hlen hB
    go_wp2_with fail
    refine (equal_it B _ 1 cap' 1 [(2, 4)] _ (HX1.out.mor (Mor.refl _).alloc) (pi_lit 2 4 rfl) rfl (by omega)).mono ?_
    rintro e w4 ⟨rfl, hm⟩
    have HM4 := Lib.hid ((HM.out.alloc).trans' hm)
    clear hm HX1 HM
    go_wp2_with fail
    refine (HWa.out _).mono ?_
    rintro e w5 ⟨rfl, rfl⟩
    go_wp2_with fail
    refine (HWd.out _).mono ?_
    rintro e w5 ⟨rfl, rfl⟩
    go_wp2_with fail
    refine (HPa.out _ HM4.out).mono ?_
    rintro e w5 ⟨B1, m1, cap1, rfl, hm, hpi, hlen, -⟩
    have HM5 := Lib.hid (HM4.out.trans' hm)
    have HX := Lib.hid hpi
    have HXl := Lib.hid hlen
    clear hm hpi hlen HPa
    obtain ⟨q, hq, HWt⟩ : ∃ q : Nat, (0 < len → q < len) ∧ Hid (0 < len → ∀ w, Calls Try.prog 19 #[.int .i64 tn, .int .i64 len] w fun e w' => e = .returned (.int .i64 (q : Int)) ∧ w = w') := by
      by_cases h : 0 < len
      · have h1 := wi_lo tn len (by omega)
        have h2 := wi_hi tn len (by omega)
        obtain ⟨q, hq⟩ := Int.eq_ofNat_of_zero_le h1
        exact ⟨q, fun _ => by omega, Lib.hid (fun _ w => by have := within_any tn len w (by omega) (by omega); rw [hq] at this; exact this)⟩
      · exact ⟨0, fun h' => absurd h' h, Lib.hid (fun h' => absurd h' h)⟩
    have HQ := Lib.hid hq
    clear hq
    go_wp2_with fail
    go_loopw [15, 63] (fun u i wr => ∃ k : Nat, k ≤ len ∧ i = .int .i64 k ∧ Hid (wr.ownsRow w5.heap.size 28 2 u k (flat pp ((rot xs q).take k))) ∧ Hid (Below w5.heap.size w5 wr)) (fun _ i _ => len - (intOf i).toNat)
    case atStart => exact ⟨0, Nat.zero_le _, rfl, Lib.hid (World.ownsRow_nil _ _ _ _), Lib.hid (Below.refl _ _)⟩
    case round =>
      obtain ⟨k, hk, rfl, HO, HB⟩ := hrel
      by_cases hlt : k < len
      · have hki : (k : Int) < (len : Int) := by omega
        have hk0 : (0 : Int) ≤ (k : Int) := by omega
        have hql := HQ.out (by omega)
        obtain ⟨r, hr⟩ : ∃ r, r = k + q := ⟨_, rfl⟩
        obtain ⟨p, hp⟩ : ∃ p, p = r % len := ⟨_, rfl⟩
        have hpl : p < len := by rw [hp]; exact Nat.mod_lt _ (by omega)
        have e1 : (k : Int) + (q : Int) = (r : Int) := by omega
        have e2 : (r : Int).tmod (len : Int) = (p : Int) := by rw [hp]; rfl
        have wr1 : IntKind.i64.wrap (r : Int) = (r : Int) := IntWalk.i64_in _ (by omega)
        have wp1 : IntKind.i64.wrap (p : Int) = (p : Int) := IntWalk.i64_in _ (by omega)
        have p0 : (0 : Int) ≤ (p : Int) := by omega
        have pN : (p : Int) < (len : Int) := by omega
        have hlz : ((len : Int) == 0) = false := beq_eq_false_iff_ne.2 (by omega)
        have hlz' : (len : Int) ≠ 0 := by omega
        have HS := Lib.hid (show (rot xs q).take (k + 1) = (rot xs q).take k ++ [ge xs p] by
          have := rot_take xs q k (by rw [HNP.out]; exact hql) (by rw [HNP.out]; exact hlt)
          rw [HNP.out, ← hr, ← hp] at this
          exact this)
        obtain ⟨x, hA, hxb, c1, c2⟩ := (HRP.out.mor (HM5.out.trans' (Mor.of_below HB.out))).cells p (by rw [HNP.out]; exact hpl)
        subst hA
        have HW := Lib.hid (HWt.out (by omega))
        have HHp := Lib.hid (And.intro hr hp)
        clear hr hp
        generalize (ge xs p) = P at *
        obtain ⟨u, v⟩ := P
        dsimp only at *
        go_wp2_with (first
          | (go_at_call 19; (with_reducible refine (HW.out _).mono ?_); rintro e w6 ⟨rfl, rfl⟩)
          | (at_builtin; refine wpList_append_own _ rfl _ _ 22 rfl w5.heap.size 28 i0 (.agg #[.int .i64 0, .int .i64 0]) 2 16 Try.underlying22 hi hz0 hz1 hz2 rfl (by decide) _ _ _ rfl (HO.out.alloc _) ⟨wr.heap.size, 0, none⟩ 1 1 [.int .i64 u, .int .i64 v] rfl rfl ?_ ?_ ?_ ?_ ?_ ?_))
        case refine_6 =>
          intro v' w1 hown' hgrow _
          have HO' := Lib.hid hown'
          have HB' := Lib.hid (own_stepS (m := 0) HO.out HB.out hgrow)
          clear hown' hgrow
          go_wp2
          go_roundw
          case rel => exact ⟨k + 1, by omega, by go_num, Lib.hid (by rw [HS.out, flat_snoc']; exact HO'.out), HB'⟩
          case measure => simp [intOf]; omega
        all_goals try (first | (exact rfl) | (exact ⟨rfl, rfl⟩) | (intro u hu; simp at hu; rcases hu with rfl | rfl <;> rfl) | (unfold maxLen; omega) | omega | (have := HB.out.size; simp; omega) | (intro j u hj; match j, hj with | 0, hj => simp at hj; subst hj; simp [Addr.add] | 1, hj => simp at hj; subst hj; simp [Addr.add]))
      · obtain rfl : k = len := by omega
        obtain ⟨A2, cA, rfl, hcA, hrd, hsm⟩ := own_shape HO.out
        have hperm := rot_perm xs q
        have hlr : (rot xs q).length = k := by rw [rot_len, HNP.out]
        have HPo := Lib.hid (own_pi HO.out)
        rw [List.take_of_length_le (by omega)] at HPo
        have ho : ∀ p ∈ rot xs q, okP p := fun p hp => HOk.out p (hperm.mem_iff.2 hp)
        have hA2 : A2 = none → k = 0 := by
          intro h
          rcases Nat.eq_zero_or_pos k with h0 | h0
          · exact h0
          · obtain ⟨g, hg, _⟩ := hsm h0
            rw [hg] at h; cases h
        have HMr := Lib.hid (HM5.out.trans' (Mor.of_below HB.out))
        have HPb := Lib.hid (pay_yes A2 k cA (rot xs q) b wr HPo.out hlr hA2 (payc_of (by omega) ho (by omega) (by omega)))
        have e1 : lft (byDay (rot xs q)) b = lft (byDay xs) b := by unfold lft; rw [tot_byDay, tot_byDay, tot_perm hperm]
        obtain ⟨x1, x2⟩ := left_ok (a := b) HL40.out HOk.out a1
        obtain ⟨y1, y2⟩ := left_ok (xs := rot xs q) (a := b) (by omega) ho a1
        have e2 : tot (pay (byDay (rot xs q)) b) = tot (pay (byDay xs) b) := by
          rw [tot_pay _ _ a1 (ok_one (byDay_ok HOk.out)), tot_pay _ _ a1 (ok_one (byDay_ok ho)), e1, tot_byDay, tot_byDay, tot_perm hperm]
        have e3 : ag (pay (byDay xs) b) t [3, 10, 20] (pay (byDay xs) b).length = ag (pay (byDay (rot xs q)) b) t [3, 10, 20] (pay (byDay (rot xs q)) b).length := ag_any a1 hperm HOk.out
        have HX5 := Lib.hid (HX.out.mor (Mor.of_below HB.out))
        unfold PayPost at HPb
        rw [e1] at HPb
        have HAx := Lib.hid (fun w' (h : Mor wr w') B (hb : Ri w' B [3, 10, 20]) => ages_ok B1 m1 cap1 (pay (byDay xs) b) t B 3 3 [3, 10, 20] w' (HX5.out.mor h) HXl.out hb rfl (agec_ok x1 x2 d1 (by omega)))
        have HAy := Lib.hid (fun w' A m c (hp : Pi w' A (pay (byDay (rot xs q)) b)) (hn : (pay (byDay (rot xs q)) b).length = m) B (hb : Ri w' B [3, 10, 20]) => ages_ok A m c (pay (byDay (rot xs q)) b) t B 3 3 [3, 10, 20] w' hp hn hb rfl (agec_ok y1 y2 d1 (by omega)))
        have HOx := Lib.hid (fun w' (h : Mor wr w') => owed_tot B1 m1 cap1 (pay (byDay xs) b) w' (HX5.out.mor h) HXl.out (by have := HXl.out; omega) x2)
        have HOy := Lib.hid (fun w' A m c (hp : Pi w' A (pay (byDay (rot xs q)) b)) (hn : (pay (byDay (rot xs q)) b).length = m) => owed_tot A m c (pay (byDay (rot xs q)) b) w' hp hn (by omega) y2)
        rw [e2] at HOy
        have HE3 := Lib.hid e3
        have HLa := Lib.hid (show (ag (pay (byDay xs) b) t [3, 10, 20] (pay (byDay xs) b).length).length = 4 from ag_len _ _ _ _)
        unfold AgPost at HAx HAy
        clear hrd hsm hperm hlr ho hA2 e1 e2 e3 x1 x2 y1 y2 HO HB HPo
        generalize pay (byDay (rot xs q)) b = Y at *
        generalize pay (byDay xs) b = X at *
        generalize lft (byDay xs) b = L at *
        generalize tot X = T at *
        go_wp2_with fail
        refine HPb.out.mono ?_
        rintro e w6 ⟨B2, m2, cap2, rfl, hm, hpi, hlen, -⟩
        have HM6 := Lib.hid hm
        have HY := Lib.hid hpi
        have HYl := Lib.hid hlen
        clear hm hpi hlen HPb
        go_wp2_with fail
        refine (HAx.out _ (HM6.out.trans' (Mor.refl _).alloc) _ (Ri.of_row (row_lit [3, 10, 20] (by simp) rfl))).mono ?_
        rintro e w7 ⟨g7, he, hm, hr⟩
        have HM7 := Lib.hid ((HM6.out.trans' (Mor.refl _).alloc).trans' hm)
        have HY7 := Lib.hid (HY.out.mor ((Mor.refl _).alloc.trans' hm))
        have HR7 := Lib.hid hr
        obtain rfl := he
        clear hm hr HM6
        go_wp2_with fail
        refine (HAy.out (w7.alloc (.cells #[.int .i64 3, .int .i64 10, .int .i64 20] 3)) B2 m2 cap2 (HY7.out.mor (Mor.refl _).alloc) HYl.out _ (Ri.of_row (row_lit [3, 10, 20] rfl rfl))).mono ?_
        rintro e w8 ⟨g8, he, hm, hr⟩
        obtain rfl := he
        have HM8 := Lib.hid (HM7.out.trans' ((Mor.refl _).alloc.trans' hm))
        have HR8 := Lib.hid (HR7.out.mor ((Mor.refl _).alloc.trans' hm))
        have HS8 := Lib.hid (show Row w8 g8 0 (ag X t [3, 10, 20] X.length) by rw [HE3.out, HYl.out]; exact hr)
        have HY8 := Lib.hid (HY7.out.mor ((Mor.refl _).alloc.trans' hm))
        rw [← HXl.out] at HR8
        clear hm hr HM7 HY7
        go_wp2_with fail
        have hMwr : Mor wr w8 := HM8.out
        refine (HOx.out _ HM8.out).mono ?_
        rintro e w9 ⟨rfl, hm⟩
        have HM9 := Lib.hid hm
        clear hm
        go_wp2_with fail
        refine (HOy.out _ B2 m2 cap2 (HY8.out.mor HM9.out) HYl.out).mono ?_
        rintro e w10 ⟨rfl, hm⟩
        have HM10 := Lib.hid (HM9.out.trans' hm)
        clear hm
        go_wp2_with fail
        refine (equal_yes _ _ _ _ _ _ 4 _ _ (HR8.out.mor HM10.out) (HS8.out.mor HM10.out) HLa.out (by omega)).mono ?_
        rintro e w11 ⟨rfl, m0, rfl⟩
        go_wp2_with fail
        go_ret
        exact ⟨rfl, ((HMr.out.trans' HM8.out).trans' HM10.out).drewN.below⟩
  · have HP0 := Lib.hid (fun w' (h : Mor w w') => pay_no A len cap xs b w' (HRP.out.mor h) HNP.out HMXP.out hc)
    unfold PayNo at HP0
    have hc' : (payc xs b == 0) = false := by simpa using hc
    generalize payc xs b = c at *
    clear hc
    go_enter Try.func7, Try.ntmps7
    go_wp2_with fail
    refine (pay_yes _ 2 2 [(2, 4), (1, 4)] 4 _ (pi_lit2 2 4 1 4 rfl) rfl (by simp) beg_c).mono ?_
    rintro e w3 ⟨B, m, cap', rfl, hm, hpi, hlen, hB⟩
    rw [beg_v] at hlen hpi
    rw [beg_r]
    obtain rfl : m = 1 := hlen.symm
    have HM := Lib.hid (show Mor w w3 from Mor.trans' (by repeat (first | exact Mor.refl _ | apply Mor.alloc)) hm)
    have HX1 := Lib.hid hpi
    clear hm hpi hlen hB
    go_wp2_with fail
    refine (equal_it B _ 1 cap' 1 [(2, 4)] _ (HX1.out.mor (Mor.refl _).alloc) (pi_lit 2 4 rfl) rfl (by omega)).mono ?_
    rintro e w4 ⟨rfl, hm⟩
    have HM4 := Lib.hid ((HM.out.alloc).trans' hm)
    clear hm HX1 HM
    go_wp2_with fail
    refine (HWa.out _).mono ?_
    rintro e w5 ⟨rfl, rfl⟩
    go_wp2_with fail
    refine (HWd.out _).mono ?_
    rintro e w5 ⟨rfl, rfl⟩
    go_wp2_with fail
    refine (HP0.out _ HM4.out).mono ?_
    rintro e w5 ⟨rfl, hm⟩
    go_wp2_with fail
    go_ret
    exact ⟨rfl, (HM4.out.trans' hm).below⟩

end Go.Proofs.Ytphkckonnogjmaa.ageAny
