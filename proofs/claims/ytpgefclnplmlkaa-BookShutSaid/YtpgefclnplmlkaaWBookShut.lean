/- The walk of talkeep.BookShut. -/
import Derived.Test.YtpgefclnplmlkaaShutA
import Derived.BigRegion
namespace Go.Proofs.Ytpgefclnplmlkaa.bookShut
open Go.ChangeShapes Go.WideShapes Go.ChangeAt Go.RowKit Go.PlainAid
set_option linter.unusedVariables false

set_option maxRecDepth 100000 in
set_option maxHeartbeats 3200000 in
theorem bookShut_walk (w : World) (A : Option Addr) (n c : Nat) (X : Option Addr) (m k : Nat) (b : Bok) (hb : Bq w A n c X m k b) (v1 : Int) (w1 : (Lit.int .i64 v1).wf = true) (E : Option Addr) (p q : Nat) (es : List En) (he : Es w E es ∧ es.length = p ∧ p ≤ q ∧ q ≤ maxLen ∧ (E = none → p = 0)) (s : ByteArray) (ws : s.size ≤ maxLen) (v2 : Int) (w2 : (Lit.int .i64 v2).wf = true) :
    Calls Try.prog 11 #[bv A n c X m k b.shut, .int .i64 v1, .slice E p q, .string s, .int .i64 v2] w fun e w' => e = .returned (.bool true) ∧ Below w.heap.size w w' := by
  obtain ⟨he, hel, hpq, hq63, hEn⟩ := he
  have hq63' := hq63
  unfold maxLen at hq63'
  have t0 := wi_lo v1 292194 (by omega)
  have t1 := wi_hi v1 292194 (by omega)
  have HD := Lib.hid (fun w => day_any v1 w)
  generalize wi v1 292194 = t at *
  have r0 := wi_lo v2 (t + 1) (by omega)
  have r1 := wi_hi v2 (t + 1) (by omega)
  have HW := Lib.hid (fun w => within_any v2 (t + 1) w (by omega) (by omega))
  generalize wi v2 (t + 1) = r at *
  have HSn := Lib.hid (fun w' (h : Mor w w') (hc : shutc b t ≠ 0) => shut_no A n c X m k b t w' (hb.mor h) hc)
  have HSy := Lib.hid (fun w' (h : Mor w w') (hc : shutc b t = 0) => shut_yes A n c X m k b t w' (hb.mor h) (shutc_zero hc).1 t0 (by omega) (shutc_zero hc).2.2.2)
  have HBo := Lib.hid (fun (hc : shutc b t = 0) => shut_ok ((bookc_iff b).1 (shutc_zero hc).1) t0 (by omega))
  have HE := Lib.hid (fun w' (h : Mor w w') => he.mor h)
  have HEl := Lib.hid (And.intro hel (And.intro hpq (And.intro hq63 hEn)))
  generalize hsh : b.shut = sh at *
  clear hb w1 w2 hsh he hel hq63 hEn
  go_enter Try.func11, Try.ntmps11
  go_wp2_with fail
  refine (begun_any _).mono ?_
  rintro e w3 ⟨rfl, hm⟩
  have hP := (C3.new w (.slice A n c) (.slice X m k) (.int .i64 sh) 25).mor hm
  have HM3 := Lib.hid ((Mor.refl w).alloc.trans' hm)
  obtain ⟨bP, hbP⟩ : ∃ g, g = w.heap.size := ⟨_, rfl⟩
  rw [← hbP] at hP ⊢
  have HP3 := Lib.hid (fun w' (h : Mor w3 w') => hP.mor h)
  clear hP hm hbP
  go_wp2_with fail
  refine (plain_any _).mono ?_
  rintro e w4 ⟨g, rfl, hp, hm4⟩
  have HPl := Lib.hid hp
  have HM34 := Lib.hid hm4
  clear hp hm4
  go_wp2_with fail
  refine (shut_yes _ _ _ _ _ _ plainB 5 _ HPl.out plain_ok (by omega) (by omega) (by decide)).mono ?_
  intro e w5 h5
  obtain ⟨A5, n5, c5, X5, m5, k5, rfl, -, -, hm5⟩ := postYes_bq h5
  have HM35 := Lib.hid (HM34.out.trans' hm5)
  have HM5 := Lib.hid (HM3.out.trans' HM35.out)
  clear h5 hm5 HPl
  rw [show (shutb plainB 5).shut = 5 from rfl]
  obtain ⟨c0, c1, c2, cl⟩ := HP3.out _ HM35.out
  go_wp2_with (go_at_call 17; (with_reducible refine (HD.out _).mono ?_); rintro e w6 ⟨rfl, rfl⟩)
  by_cases hc : shutc b t = 0
  · have HS := Lib.hid (fun w' h => HSy.out w' h hc)
    have hxo := HBo.out hc
    clear HSn HSy HBo hc
    refine (HS.out _ (HM5.out.alloc)).mono ?_
    intro e w6 h6
    obtain ⟨A6, n6, c6, X6, m6, k6, rfl, hq6, -, hm6⟩ := postYes_bq h6
    rw [show (shutb b t).shut = t from rfl]
    have hm56 : Mor w5 w6 := (Mor.refl w5).alloc.trans' hm6
    have HM6 := Lib.hid (HM5.out.trans' hm56)
    obtain ⟨x, hx⟩ : ∃ x, x = shutb b t := ⟨_, rfl⟩
    rw [← hx] at hq6 hxo
    have hxs : x.shut = t := by rw [hx]; rfl
    clear h6 hx HS hm56 hm6 HP3 c0 c1 c2 cl HD
    have HQ6 := Lib.hid (fun w' (h : Mor w6 w') => hq6.mor h)
    have HXo := Lib.hid hxo
    have HXs := Lib.hid hxs
    have hxn := hq6.ac.length
    have hxm := hq6.length
    have HBx := Lib.hid (fun w' (h : Mor w6 w') => show Calls Try.prog 20 #[bv A6 n6 c6 X6 m6 k6 t, .string s, .int .i64 r] w' fun e w'' => e = .returned (.tuple #[.int .i64 (balv x s r), .int .i64 (balc x s r)]) ∧ Mor w' w'' by
      have h2 := bal_any A6 n6 c6 X6 m6 k6 x s r w' (hq6.mor h)
      rw [hxs] at h2
      exact h2)
    have HMd := Lib.hid (fun w' (h : Mor w6 w') => show Calls Try.prog 30 #[bv A6 n6 c6 X6 m6 k6 t, .slice E p q] w' fun e w'' => ∃ A' c' X' m' k', e = .returned (bv A' n6 c' X' m' k' t) ∧ Bq w'' A' n6 c' X' m' k' (madeb x (es.take 40)) ∧ Mor w' w'' by
      have h2 := made_any A6 n6 c6 X6 m6 k6 x E p q es w' (hq6.mor h) (HE.out w' (HM6.out.trans' h)) HEl.out.1 HEl.out.2.1 HEl.out.2.2.1 HEl.out.2.2.2
      rw [hxs] at h2
      refine h2.mono fun e w'' h3 => ?_
      obtain ⟨A', c', X', m', k', he, hl, hm⟩ := h3
      exact ⟨A', c', X', m', k', he, hl.bq (hq6.mor h) hm, hm⟩)
    have HBy := Lib.hid (fun w' A' n' c' X' m' k' (h : Bq w' A' n' c' X' m' k' (madeb x (es.take 40))) => show m6 ≤ m' ∧ Calls Try.prog 20 #[bv A' n' c' X' m' k' t, .string s, .int .i64 r] w' fun e w'' => e = .returned (.tuple #[.int .i64 (balv x s r), .int .i64 (balc x s r)]) ∧ Mor w' w'' by
      have h2 := bal_any A' n' c' X' m' k' _ s r w' h
      obtain ⟨e1, e2⟩ := madeb_bal hxo (es.take 40) s (t := r) (by rw [hxs]; omega)
      rw [(madeb_ac x _).2, hxs, e1, e2] at h2
      refine ⟨?_, h2⟩
      rw [← hxm, ← h.length]
      exact madeb_len x _)
    generalize balv x s r = vv at *
    generalize balc x s r = cc at *
    clear hxo hxs hq6
    go_wp2_with fail
    have hX := C3.new w6 (.slice A6 n6 c6) (.slice X6 m6 k6) (.int .i64 t) 25
    have hM67 := (Mor.refl w6).alloc (o := .cells #[.slice A6 n6 c6, .slice X6 m6 k6, .int .i64 t] 25)
    obtain ⟨bX, hbX⟩ : ∃ g, g = w6.heap.size := ⟨_, rfl⟩
    rw [← hbX] at hX ⊢
    clear hbX
    generalize w6.alloc (.cells #[.slice A6 n6 c6, .slice X6 m6 k6, .int .i64 t] 25) = w7 at *
    have HX7 := Lib.hid (fun w' (h : Mor w7 w') => hX.mor h)
    have HM67 := Lib.hid hM67
    obtain ⟨x0, x1, x2, xl⟩ := hX
    clear hM67
    refine (HW.out _).mono ?_
    rintro e w8 ⟨rfl, rfl⟩
    go_wp2_with fail
    refine (HBx.out _ HM67.out).mono ?_
    rintro e w8 ⟨rfl, hm⟩
    have HM78 := Lib.hid hm
    clear hm x0 x1 x2 xl HBx
    obtain ⟨x0, x1, x2, xl⟩ := HX7.out _ HM78.out
    go_wp2_with fail
    refine (HMd.out _ (HM67.out.trans' HM78.out)).mono ?_
    rintro e w9 ⟨A9, c9, X9, m9, k9, rfl, hq9, hm⟩
    have HM79 := Lib.hid (HM78.out.trans' hm)
    obtain ⟨hm69, hb9⟩ := HBy.out _ _ _ _ _ _ _ (hq9.mor ((Mor.refl w9).alloc (o := .cells #[.slice A9 n6 c9, .slice X9 m9 k9, .int .i64 t] 25)))
    have HB9 := Lib.hid hb9
    clear hm x0 x1 x2 xl HMd HBy hb9 hq9
    go_wp2_with fail
    have hY := C3.new w9 (.slice A9 n6 c9) (.slice X9 m9 k9) (.int .i64 t) 25
    have hM10 := HM79.out.alloc (o := .cells #[.slice A9 n6 c9, .slice X9 m9 k9, .int .i64 t] 25)
    obtain ⟨bY, hbY⟩ : ∃ g, g = w9.heap.size := ⟨_, rfl⟩
    rw [← hbY] at hY ⊢
    clear hbY
    generalize w9.alloc (.cells #[.slice A9 n6 c9, .slice X9 m9 k9, .int .i64 t] 25) = w10 at *
    refine HB9.out.mono ?_
    rintro e w11 ⟨rfl, hm⟩
    have HY := Lib.hid (hY.mor hm)
    have HM7 := Lib.hid (hM10.trans' hm)
    clear hY hM10 hm HB9
    obtain ⟨x0, x1, x2, xl⟩ := HX7.out _ HM7.out
    obtain ⟨y0, y1, y2, yl⟩ := HY.out
    have hlb : decide ((m9 : Int) < (m6 : Int)) = false := by simp; omega
    have hlb' : ¬ (m9 : Int) < (m6 : Int) := by omega
    have hlb2 : ¬ m9 < m6 := by omega
    go_wp2_with fail
    clear hlb hlb' hlb2 hm69 y0 y1 y2 yl HY x0 x1 x2 xl
    go_loopw [95] (fun i wr => ∃ (j : Nat), j ≤ p ∧ i = .int .i64 j ∧ Hid (Mor w7 wr)) (fun i _ => p - (intOf i).toNat)
    case atStart => exact ⟨0, Nat.zero_le _, rfl, HM7⟩
    case round =>
      obtain ⟨j, hj, rfl, HR⟩ := hrel
      have HRw := Lib.hid (HM6.out.trans' (HM67.out.trans' HR.out))
      obtain ⟨x0, x1, x2, xl⟩ := HX7.out _ HR.out
      by_cases hlt : j < p
      · have hji : (j : Int) < (p : Int) := by omega
        have hj0 : (0 : Int) ≤ (j : Int) := by omega
        obtain ⟨z, A2, n2, c2', hE, hzb, hks, d0, d1, d2, hlq⟩ := (HE.out _ HRw.out).at_ j (by rw [HEl.out.1]; exact hlt)
        subst hE
        have hbq := HQ6.out _ (HM67.out.trans' HR.out)
        generalize ne es j = y at *
        obtain ⟨ky, dy, ls⟩ := y
        dsimp only at d0 d1 hks hlq
        have HPn := Lib.hid (fun w' (h : Mor wr w') (hc : postc x ⟨ky, dy, ls⟩ ≠ 0) => show Calls Try.prog 22 #[bv A6 n6 c6 X6 m6 k6 t, .agg #[.string ky, .int .i64 dy, .slice A2 n2 c2']] w' (PostNo w' (postc x ⟨ky, dy, ls⟩)) by
          have h3 := post_no A6 n6 c6 X6 m6 k6 x ⟨ky, dy, ls⟩ A2 n2 c2' w' (hbq.mor h) (hlq.mor h) hks hc
          rw [HXs.out] at h3
          exact h3)
        have HPy := Lib.hid (fun w' (h : Mor wr w') (hc : postc x ⟨ky, dy, ls⟩ = 0) => show Calls Try.prog 22 #[bv A6 n6 c6 X6 m6 k6 t, .agg #[.string ky, .int .i64 dy, .slice A2 n2 c2']] w' (fun e w'' => ∃ A n c X m k, e = .returned (.tuple #[bv A n c X m k t, .int .i64 0]) ∧ Mor w' w'') by
          have h3 := post_yes A6 n6 c6 X6 m6 k6 x ⟨ky, dy, ls⟩ A2 n2 c2' w' (hbq.mor h) (hlq.mor h) hks hc
          rw [HXs.out] at h3
          refine h3.mono fun e w'' h => ?_
          obtain ⟨A9, n9, c9, X9, m9, k9, he, ho, hm9⟩ := h
          rw [(post_ac _ _).2, HXs.out] at he
          exact ⟨A9, n9, c9, X9, m9, k9, he, hm9⟩)
        by_cases hc : postc x ⟨ky, dy, ls⟩ = 0
        · have HP := Lib.hid (fun w' h => HPy.out w' h hc)
          have HGt := Lib.hid (fun w' (h : Mor wr w') (hd : dy ≤ t) => show Calls Try.prog 26 #[bv A6 n6 c6 X6 m6 k6 t, .string ky] w' (fun e w'' => ∃ s d A n c, e = .returned (.tuple #[.agg #[.string s, .int .i64 d, .slice A n c], .int .i64 0]) ∧ Mor w' w'') by
            obtain ⟨i, hi, hf⟩ := post_there hc (by rw [HXs.out]; exact hd)
            have h3 := get_yes A6 n6 c6 X6 m6 k6 x ky w' (hbq.mor h) ((bookc_iff _).2 HXo.out) i (by rw [← hxm]; exact hi) hf
            rw [HXs.out] at h3
            refine h3.mono fun e w'' h4 => ?_
            obtain ⟨A9, n9, c9, he, -, hm⟩ := getYes_lq h4
            exact ⟨_, _, A9, n9, c9, he, hm⟩)
          clear hc HPn HPy hbq hlq
          go_wp2_with fail
          refine (HP.out _ (Mor.refl _).alloc).mono ?_
          rintro e w12 ⟨A12, n12, c12, X12, m12, k12, rfl, hm12⟩
          have hen := (C3.new wr (.string ky) (.int .i64 dy) (.slice A2 n2 c2') 42).mor hm12
          have hmr := (Mor.refl wr).alloc.trans' hm12
          obtain ⟨bN, hbN⟩ : ∃ g, g = wr.heap.size := ⟨_, rfl⟩
          rw [← hbN] at hen ⊢
          obtain ⟨e0, e1, e2, el⟩ := hen
          obtain ⟨x0, x1, x2, xl⟩ := HX7.out _ (HR.out.trans' hmr)
          have HMr := Lib.hid hmr
          clear hbN hm12 hmr d0 d1 d2 HP
          by_cases hd : dy ≤ t
          · have hdb : decide (dy ≤ t) = true := by simpa using hd
            go_wp2_with fail
            refine (HGt.out _ HMr.out.alloc hd).mono ?_
            rintro e w13 ⟨s13, d13, A13, n13, c13, rfl, hm13⟩
            have HMr2 := Lib.hid ((HR.out.trans' HMr.out.alloc).trans' hm13)
            clear hm13 HGt e0 e1 e2 el x0 x1 x2 xl
            go_wp2_with fail
            go_roundw
            case rel => exact ⟨j + 1, by omega, by go_num, Lib.hid HMr2.out.alloc⟩
            case measure => simp [intOf]; omega
          · have hdb : decide (dy ≤ t) = false := by simpa using hd
            go_wp2_with fail
            go_roundw
            case rel => exact ⟨j + 1, by omega, by go_num, Lib.hid (HR.out.trans' HMr.out.alloc)⟩
            case measure => simp [intOf]; omega
        · have HP := Lib.hid (fun w' h => HPn.out w' h hc)
          have hrb : (postc x ⟨ky, dy, ls⟩ == 0) = false := by simpa using hc
          generalize postc x ⟨ky, dy, ls⟩ = r9 at *
          clear hc HPn HPy hbq hlq
          go_wp2_with fail
          refine (HP.out _ (Mor.refl _).alloc).mono ?_
          rintro e w12 ⟨rfl, hm12⟩
          have HMr := Lib.hid (HR.out.trans' ((Mor.refl wr).alloc.trans' hm12))
          clear hm12
          go_wp2_with fail
          go_roundw
          case rel => exact ⟨j + 1, by omega, by go_num, Lib.hid HMr.out.alloc⟩
          case measure => simp [intOf]; omega
      · obtain rfl : j = p := by omega
        have HSx := Lib.hid (show Calls Try.prog 15 #[bv A6 n6 c6 X6 m6 k6 t, .int .i64 t] wr (fun e w'' => ∃ A c X k, e = .returned (.tuple #[bv A n6 c X m6 k t, .int .i64 0]) ∧ Bq w'' A n6 c X m6 k x ∧ Mor wr w'') by
          have h3 := shut_yes A6 n6 c6 X6 m6 k6 x t wr (HQ6.out _ (HM67.out.trans' HR.out)) ((bookc_iff _).2 HXo.out) (by omega) (by omega) (by rw [HXs.out]; omega)
          have e9 : shutb x t = x := by unfold shutb; rw [← HXs.out]
          rw [HXs.out, e9] at h3
          refine h3.mono fun e w'' h => ?_
          obtain ⟨A9, n9, c9, X9, m9, k9, he, hq, -, hm⟩ := postYes_bq h
          have en : n9 = n6 := by rw [← hxn, ← hq.ac.length]
          have em : m9 = m6 := by rw [← hxm, ← hq.length]
          subst en em
          rw [HXs.out] at he
          exact ⟨A9, c9, X9, k9, he, hq, hm⟩)
        go_wp2_with fail
        refine HSx.out.mono ?_
        rintro e w12 ⟨A12, c12, X12, k12, rfl, hq12, hm12⟩
        have HR12 := Lib.hid (HR.out.trans' hm12)
        have HSB := Lib.hid (samebook_yes A12 A6 n6 c12 c6 X12 X6 m6 k12 k6 t x (w12.alloc (.cells #[.slice A12 n6 c12, .slice X12 m6 k12, .int .i64 t] 25)) (hq12.mor (Mor.refl _).alloc) (HQ6.out _ (HM67.out.trans' HR12.out.alloc)))
        clear x0 x1 x2 xl hq12 hm12 HSx
        obtain ⟨x0, x1, x2, xl⟩ := HX7.out _ HR12.out
        go_wp2_with fail
        refine HSB.out.mono ?_
        rintro e w13 ⟨rfl, hm13⟩
        have HR13 := Lib.hid (HR12.out.alloc.trans' hm13)
        clear hm13
        go_wp2_with fail
        go_ret
        exact ⟨by simp, (HM6.out.trans' (HM67.out.trans' HR13.out)).below⟩
  · have HS := Lib.hid (fun w' h => HSn.out w' h hc)
    have hrb : (shutc b t != 0) = true := by simpa using hc
    generalize shutc b t = cd at *
    clear HSn HSy HBo hc
    refine (HS.out _ (HM5.out.alloc)).mono ?_
    rintro e w6 ⟨rfl, hm6⟩
    have HM6 := Lib.hid (HM5.out.alloc.trans' hm6)
    clear hm6
    go_wp2_with fail
    go_ret
    exact ⟨by simp, HM6.out.alloc.below⟩

end Go.Proofs.Ytpgefclnplmlkaa.bookShut
