/- The walk of age.Pay. -/
import Derived.Test.YtphkckonnogjmaaPayB
import Derived.Test.YtphkckonnogjmaaAgeA
namespace Go.Proofs.Ytphkckonnogjmaa
open Go.ChangeShapes Go.WideShapes Go.ChangeAt Go.RowKit Stb
set_option linter.unusedVariables false

/-- sorting nothing -/
theorem ins_nil (c : Nat) (cb : Array Value) (w : World) : Calls Try.prog 51 #[.slice none 0 0, .int .i64 0, .int .i64 0, .func (.func c) #[] cb] w fun e w' => e = .returned (.tuple #[]) ∧ w = w' := by
  go_enter Try.func51, Try.ntmps51
  go_wp2
  refine wp_loop_rounds 1 ?_
  repeat (
    rw [rounds_succ]
    go_wp2_with fail)
  go_end0
  exact ⟨rfl, rfl⟩
theorem stable_nil (c : Nat) (cb : Array Value) (w : World) : Calls Try.prog 45 #[.slice none 0 0, .int .i64 0, .func (.func c) #[] cb] w fun e w' => e = .returned (.tuple #[]) ∧ w = w' := by
  have HI := Lib.hid (ins_nil c cb w)
  go_enter Try.func45, Try.ntmps45
  go_wp2_with fail
  refine wp_loop_rounds 1 ?_
  repeat (
    rw [rounds_succ]
    go_wp2_with (go_at_call 51; (with_reducible refine HI.out.mono ?_); rintro r w1 ⟨rfl, rfl⟩))
  refine wp_loop_rounds 1 ?_
  repeat (
    rw [rounds_succ]
    go_wp2_with fail)
  go_end0
  exact ⟨rfl, rfl⟩
theorem sort_nil (c : Nat) (cb : Array Value) (w : World) : Calls Try.prog 32 #[.slice none 0 0, .func (.func c) #[] cb] w fun e w' => e = .returned (.tuple #[]) ∧ w = w' := by
  have HI := Lib.hid (stable_nil c cb w)
  go_enter Try.func32, Try.ntmps32
  go_wp2_with (first | (go_at_call 45; (with_reducible refine HI.out.mono ?_); rintro r w1 ⟨rfl, rfl⟩))
  go_end0
  exact ⟨rfl, rfl⟩
theorem ixf_nil (c : Nat) (cb : Array Value) (w : World) : Calls Try.prog 46 #[.slice none 0 0, .func (.func c) #[] cb] w fun e w' => e = .returned (.int .i64 (-1)) ∧ w = w' := by
  go_enter Try.func46, Try.ntmps46
  go_wp2
  refine wp_loop_rounds 1 ?_
  repeat (
    rw [rounds_succ]
    go_wp2_with fail)
  go_ret
  exact ⟨rfl, rfl⟩
theorem delf_nil (c : Nat) (cb : Array Value) (w : World) : Calls Try.prog 34 #[.slice none 0 0, .func (.func c) #[] cb] w fun e w' => e = .returned (.slice none 0 0) ∧ w = w' := by
  have HI := Lib.hid (ixf_nil c cb w)
  go_enter Try.func34, Try.ntmps34
  go_wp2_with (first | (go_at_call 46; (with_reducible refine HI.out.mono ?_); rintro e w1 ⟨rfl, rfl⟩))
  go_ret
  exact ⟨rfl, rfl⟩

/-- what the call made: nothing, or a block of items -/
theorem own_cases {w : World} {B n : Nat} {T : TypeId} {v : Value} {xs : List Pr} (h : w.ownsRow B T 2 v n (flat pp xs)) :
    (v = .slice none 0 0 ∧ n = 0 ∧ xs = []) ∨ ∃ g cap, v = .slice (some ⟨g, 0, none⟩) n cap ∧ B ≤ g ∧ Dat w g xs ∧ n ≤ cap := by
  obtain ⟨hl, h⟩ := h
  rw [flat_len pp 2 pp_len] at hl
  rcases h with ⟨rfl, rfl⟩ | ⟨g, cap, cur, rfl, hB, hg, hn, _, hs, ht⟩
  · exact .inl ⟨rfl, rfl, List.eq_nil_of_length_eq_zero (by omega)⟩
  · refine .inr ⟨g, cap, rfl, hB, ⟨T, cur, hg, fun i hi => ?_⟩, hn⟩
    have hc : ∀ j, j < n * 2 → cur[j]? = (flat pp xs)[j]? := fun j hj => by
      rw [← ht, List.getElem?_take, if_pos hj, Array.getElem?_toList]
    have hf : ∀ r, r < 2 → (flat pp xs)[i * 2 + r]? = some ((pp xs[i]).getD r (.int .i64 0)) := fun r hr => by
      have := flat_get pp 2 pp_len xs i r hi hr (.int .i64 0)
      rw [List.getD_eq_getElem?_getD, List.getElem?_eq_getElem (by rw [flat_len pp 2 pp_len]; omega), Option.getD_some] at this
      rw [List.getElem?_eq_getElem (by rw [flat_len pp 2 pp_len]; omega), this]
    have e : xs[i] = ge xs i := by have := ge_some hi; rw [List.getElem?_eq_getElem hi] at this; injection this
    have h0 := hf 0 (by omega)
    have h1 := hf 1 (by omega)
    rw [e] at h0 h1
    rw [hc _ (by omega), hc _ (by omega)]
    exact ⟨h0, h1⟩

/-- what is wrong -/
def payc (xs : List Pr) (a : Int) : Int := if itc xs ≠ 0 then itc xs else if a < 0 ∨ 1000000000000 < a then 1 else 0
/-- what is left, of items and of the amount -/
def PayPost (w : World) (xs : List Pr) (a : Int) (e : Ending) (w' : World) : Prop :=
  ∃ B m cap, e = .returned (.tuple #[.slice B m cap, .int .i64 (lft (byDay xs) a), .int .i64 0]) ∧ Mor w w' ∧ Pi w' B (pay (byDay xs) a) ∧ (pay (byDay xs) a).length = m ∧ ((B = none ∧ m = 0 ∧ cap = 0) ∨ ∃ g, B = some ⟨g, 0, none⟩ ∧ w.heap.size ≤ g ∧ m ≤ cap)
def PayNo (w : World) (c : Int) (e : Ending) (w' : World) : Prop := e = .returned (.tuple #[.slice none 0 0, .int .i64 0, .int .i64 c]) ∧ Mor w w'

set_option maxHeartbeats 1600000 in
theorem pay_no (A : Option Addr) (n cap : Nat) (xs : List Pr) (a : Int) (w : World) (hr : Pi w A xs) (hn : xs.length = n) (hml : n ≤ maxLen) (hc : payc xs a ≠ 0) :
    Calls Try.prog 20 #[.slice A n cap, .int .i64 a] w (PayNo w (payc xs a)) := by
  have HC := Lib.hid (acheck_any A n cap xs w hr hn hml)
  clear hr
  by_cases h1 : itc xs = 0
  · rw [h1] at HC
    have e : payc xs a = if a < 0 ∨ 1000000000000 < a then 1 else 0 := by unfold payc; rw [if_neg (by simp [h1])]
    by_cases h2 : a < 0
    · have HF := Lib.hid (show payc xs a = 1 by rw [e, if_pos (by omega)])
      clear hc e h1 hn
      go_enter Try.func20, Try.ntmps20
      go_wp2_with (first
        | (go_at_call 29; (with_reducible refine (HC.out).mono ?_); rintro e w1 ⟨rfl, hM⟩))
      go_returns
      exact ⟨by rw [HF.out] <;> rfl, hM⟩
    · have h3 : 1000000000000 < a := by
        rw [e] at hc
        by_cases h4 : a < 0 ∨ 1000000000000 < a
        · omega
        · rw [if_neg h4] at hc; exact absurd rfl hc
      have HF := Lib.hid (show payc xs a = 1 by rw [e, if_pos (by omega)])
      clear hc e h1 hn
      go_enter Try.func20, Try.ntmps20
      go_wp2_with (first
        | (go_at_call 29; (with_reducible refine (HC.out).mono ?_); rintro e w1 ⟨rfl, hM⟩))
      go_returns
      exact ⟨by rw [HF.out] <;> rfl, hM⟩
  · have HF := Lib.hid (show payc xs a = itc xs by unfold payc; rw [if_pos h1])
    have h1' : (itc xs == 0) = false := by simpa using h1
    generalize itc xs = c at *
    clear hc hn
    go_enter Try.func20, Try.ntmps20
    go_wp2_with (first
      | (go_at_call 29; (with_reducible refine (HC.out).mono ?_); rintro e w1 ⟨rfl, hM⟩))
    go_returns
    exact ⟨by rw [HF.out] <;> rfl, hM⟩

theorem says_cmp (w : World) (g : Nat) : SaysC w g 33 #[] okP dayOf (fun x y => x.1 - y.1) :=
  ⟨fun x y _ _ => by unfold dayOf; omega, fun w' _ x y hx hy => by simpa using paycmp_any x y w' hx hy⟩
theorem says_nil (w : World) (g : Nat) : SaysD w g 35 #[] (fun p => decide (p.2 = 0)) :=
  ⟨fun w' _ x => by simpa using paynil_any x w'⟩
theorem allp {xs : List Pr} (h : ∀ p ∈ xs, okP p) : AllP okP xs := fun i hi => h _ (List.mem_of_getElem? (ge_some hi))

theorem Dat.put1 {w : World} {g : Nat} {xs : List Pr} (h : Dat w g xs) (i : Nat) (v : Int) (hi : i < xs.length) : Dat (w.setCell ⟨g, i * 2 + 1, none⟩ (.int .i64 v)) g (xs.set i ((ge xs i).1, v)) := by
  obtain ⟨T, cur, hb, hc⟩ := h
  have h1 := hc.set i ((ge xs i).1, v) hi
  have e : cur.setIfInBounds (i * 2) (.int .i64 (ge xs i).1) = cur := by
    apply Array.ext_getElem?
    intro q
    rw [Array.getElem?_setIfInBounds]
    split
    · rename_i c
      subst c
      have h2 := (hc i hi).1
      rw [h2, if_pos]
      rcases Nat.lt_or_ge (i * 2) cur.size with c | c
      · exact c
      · rw [Array.getElem?_eq_none c] at h2; cases h2
    · rfl
  dsimp only at h1
  rw [e] at h1
  exact ⟨T, _, hb.set_ _ _, h1⟩
theorem pst_next (ys : List Pr) (a : Int) (k : Nat) : pst ys a (k + 1) = ((pst ys a k).1.set k ((ge ys k).1, (ge ys k).2 - if (ge ys k).2 < (pst ys a k).2 then (ge ys k).2 else (pst ys a k).2), (pst ys a k).2 - if (ge ys k).2 < (pst ys a k).2 then (ge ys k).2 else (pst ys a k).2) := rfl

set_option maxRecDepth 100000 in
set_option maxHeartbeats 3200000 in
theorem pay_yes (A : Option Addr) (n cap : Nat) (xs : List Pr) (a : Int) (w : World) (hr : Pi w A xs) (hn : xs.length = n) (h0 : A = none → n = 0) (hc : payc xs a = 0) :
    Calls Try.prog 20 #[.slice A n cap, .int .i64 a] w (PayPost w xs a) := by
  obtain ⟨c1, a0, a1⟩ : itc xs = 0 ∧ 0 ≤ a ∧ a ≤ 1000000000000 := by
    unfold payc at hc
    split at hc
    · rename_i h; exact absurd hc h
    · rename_i h
      split at hc
      · omega
      · exact ⟨by omega, by omega, by omega⟩
  obtain ⟨c2, c3⟩ := (itc_iff xs).1 c1
  have HC := Lib.hid (acheck_any A n cap xs w hr hn (by unfold maxLen; omega))
  rw [c1] at HC
  have HCl := Lib.hid (fun w' (h : Mor w w') => clone_it A n cap xs w' (hr.mor h) hn h0 (by omega))
  have n40 : n ≤ 40 := by omega
  have HSo := Lib.hid (fun w' g cap' (h : Dat w' g xs) => sortStable_int g n cap' 33 #[] okP dayOf (fun x y => x.1 - y.1) xs w' (enters_of Try.func33 (by kernel_rfl) rfl) (says_cmp w' g) (allp c3) h hn n40)
  have HNi := Lib.hid (fun w' => sort_nil 33 #[] w')
  have HDn := Lib.hid (fun w' => delf_nil 35 #[] w')
  have HDf := Lib.hid (fun w' g cap' ys (h : Dat w' g ys) (hy : ys.length = n) (hc : n ≤ cap') => delf_any g n cap' 35 #[] (fun p => decide (p.2 = 0)) ys w' (enters_of Try.func35 (by kernel_rfl) rfl) (says_nil w' g) h hy hc (by omega))
  have HOk := Lib.hid c3
  have HN := Lib.hid hn
  clear hr hn h0 hc c1 c2 c3
  go_enter Try.func20, Try.ntmps20
  go_wp2_with (first
    | (go_at_call 29; (with_reducible refine (HC.out).mono ?_); rintro e w1 ⟨rfl, hM⟩; have HM := Lib.hid hM; clear hM)
    | (go_at_call 26; (with_reducible refine (HCl.out _ HM.out).mono ?_); rintro e w2 ⟨v, rfl, hown, hM2⟩; have HM2 := Lib.hid hM2; clear hM2; rcases own_cases hown with ⟨rfl, h0, hx⟩ | ⟨g, cap', rfl, hg, hdat, hcap⟩ <;> clear hown)
    | (go_at_call 32; (with_reducible refine (HNi.out _).mono ?_); rintro r w3 ⟨rfl, rfl⟩)
    | (go_at_call 32; (with_reducible refine (HSo.out _ _ _ hdat).mono ?_); rintro r w3 ⟨rfl, ys, y1, y2, y3, y4, y5⟩))
  · subst h0 hx
    refine wp_loop_rounds 1 ?_
    repeat (
      rw [rounds_succ]
      go_wp2_with (go_at_call 34; (with_reducible refine (HDn.out _).mono ?_); rintro e w4 ⟨rfl, rfl⟩))
    go_returns
    refine ⟨none, 0, 0, ?_, HM.out.trans' HM2.out, .inl rfl, rfl, .inl ⟨rfl, rfl, rfl⟩⟩
    have : lft (byDay []) a = a := by show (if 0 < a then a - 0 else 0) = a; split <;> omega
    rw [this]; rfl
  · have HY := Lib.hid (show ys = byDay xs from isort_eq y2 y3)
    have hyl : ys.length = n := by rw [y1, HN.out]
    have HYo := Lib.hid (show ∀ p ∈ ys, okP p by rw [HY.out]; exact byDay_ok HOk.out)
    have HL := Lib.hid hyl
    have HG := Lib.hid (show w.heap.size ≤ g from Nat.le_trans HM.out.below.size hg)
    have HOn := Lib.hid y5
    have HD := Lib.hid y4
    clear y1 y2 y3 y4 y5 hyl hg hdat
    go_loopw [1, 28] (fun va vi wr => ∃ k : Nat, k ≤ n ∧ vi = .int .i64 k ∧ va = .int .i64 (pst ys a k).2 ∧ Hid (Dat wr g (pst ys a k).1) ∧ Hid (On g w2 wr)) (fun _ vi _ => n - (intOf vi).toNat)
    case atStart => exact ⟨0, Nat.zero_le _, rfl, rfl, HD, HOn⟩
    case round =>
      obtain ⟨k, hk, rfl, rfl, HZ, HO⟩ := hrel
      by_cases hlt : k < n
      · have hki : (k : Int) < (n : Int) := by omega
        have hk0 : (0 : Int) ≤ (k : Int) := by omega
        have hzl : (pst ys a k).1.length = n := by rw [pst_len, HL.out]
        obtain ⟨c1, c2⟩ := HZ.out.cell k (by omega)
        obtain ⟨f1, f2⟩ := HZ.out.frozen k
        have HP := Lib.hid (fun v => HZ.out.put1 k v (by omega))
        rw [ge_pst _ _ _ _ (Nat.le_refl _)] at c1 c2 HP
        have HX := Lib.hid (pst_next ys a k)
        obtain ⟨b1, b2⟩ := pst_bd ys a a0 (ok_one HYo.out) k (by rw [HL.out]; exact hk)
        obtain ⟨_, _, b3, b4⟩ := HYo.out (ge ys k) (List.mem_of_getElem? (ge_some (by rw [HL.out]; exact hlt)))
        obtain ⟨q, hq⟩ : ∃ q, (if (ge ys k).2 < (pst ys a k).2 then (ge ys k).2 else (pst ys a k).2) = q := ⟨_, rfl⟩
        rw [hq] at HX
        have q0 : 0 ≤ q := by rw [← hq]; split <;> omega
        have q1 : q ≤ (ge ys k).2 := by rw [← hq]; split <;> omega
        have q2 : q ≤ (pst ys a k).2 := by rw [← hq]; split <;> omega
        have HX1 := Lib.hid (show (pst ys a (k + 1)).1 = (pst ys a k).1.set k ((ge ys k).1, (ge ys k).2 - q) by rw [HX.out])
        have HX2 := Lib.hid (show (pst ys a (k + 1)).2 = (pst ys a k).2 - q by rw [HX.out])
        clear HX hzl
        have HP2 := Lib.hid (HP.out ((ge ys k).2 - q))
        rw [← HX1.out] at HP2
        clear HP HX1
        generalize (pst ys a k).2 = am at *
        generalize (ge ys k).1 = d at *
        generalize (ge ys k).2 = y at *
        go_wp2
        go_roundw
        case rel => exact ⟨k + 1, by omega, by go_num, by rw [HX2.out] <;> first | rfl | go_num, HP2, Lib.hid (HO.out.setCell _)⟩
        case measure => simp [intOf]; omega
      · obtain rfl : k = n := by omega
        obtain ⟨e1, e2⟩ := pst_all ys a a0 (ok_one HYo.out)
        rw [HL.out] at e1 e2
        have HDf' := Lib.hid (show Calls Try.prog 34 #[.slice (some ⟨g, 0, none⟩) k cap', .func (.func 35) #[] #[]] wr fun e w' => e = .returned (.slice (some ⟨g, 0, none⟩) (pay ys a).length cap') ∧ Dat w' g (pay ys a) ∧ On g wr w' from by
          have := HDf.out wr g cap' (pst ys a k).1 HZ.out (by rw [pst_len, HL.out]) hcap
          unfold DfPost at this
          rw [e1] at this
          exact this)
        rw [e2]
        have HFin := Lib.hid (fun w4 (hd : Dat w4 g (pay ys a)) (ho : On g wr w4) => show PayPost w xs a (.returned (.tuple #[.slice (some ⟨g, 0, none⟩) (pay ys a).length cap', .int .i64 (lft ys a), .int .i64 0])) w4 by
          refine ⟨some ⟨g, 0, none⟩, (pay ys a).length, cap', by rw [HY.out], ?_, ?_, by rw [HY.out], .inr ⟨g, rfl, HG.out, ?_⟩⟩
          · exact Mor.of_below (((On.of_mor (HM.out.trans' HM2.out)).trans (HO.out.trans ho)).below HG.out)
          · rw [← HY.out]; exact hd.pi
          · have := pay_len ys a; have := HL.out; omega)
        clear e1 e2 HY
        generalize lft ys a = r at *
        generalize (pay ys a).length = m at *
        go_wp2_with (go_at_call 34; (with_reducible refine (HDf'.out).mono ?_); rintro e w4 ⟨rfl, hd, ho⟩)
        go_returns
        exact HFin.out _ hd ho

end Go.Proofs.Ytphkckonnogjmaa
