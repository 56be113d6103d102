/- The walk of talkeep.TrialAdds. -/
import Derived.Test.YtpgefclnplmlkaaTriG
import Derived.Deep.RegionHeld3
import Derived.Deep.DeepCutAuto
namespace Go.Proofs.Ytpgefclnplmlkaa.trialAdds
open Go.ChangeShapes Go.WideShapes Go.ChangeAt Go.RowKit Go.PlainAid
set_option linter.unusedVariables false

set_option maxRecDepth 100000 in
set_option maxHeartbeats 3200000 in
theorem trialAdds_walk (w : World) (A : Option Addr) (n c : Nat) (X : Option Addr) (m k : Nat) (b : Bok) (hb : Bq w A n c X m k b) (ky : ByteArray) (wk : ky.size ≤ maxLen) (v1 : Int) (w1 : (Lit.int .i64 v1).wf = true) (v2 : Int) (w2 : (Lit.int .i64 v2).wf = true) :
    Calls Try.prog 13 #[bv A n c X m k b.shut, .string ky, .int .i64 v1, .int .i64 v2] w fun e w' => e = .returned (.bool true) ∧ Below w.heap.size w w' := by
  have t0 := wi_lo v1 292194 (by omega)
  have t1 := wi_hi v1 292194 (by omega)
  have HD := Lib.hid (fun w => day_any v1 w)
  generalize wi v1 292194 = d at *
  have r0 := wi_lo v2 1000 (by omega)
  have r1 := wi_hi v2 1000 (by omega)
  have HR := Lib.hid (fun w => within_any v2 1000 w (by omega) (by omega))
  generalize wi v2 1000 = r at *
  have hw1 : IntKind.i64.wrap (1 + r) = 1 + r := IntWalk.i64_in _ (by omega)
  have hw2 : IntKind.i64.wrap (-1 - r) = -1 - r := IntWalk.i64_in _ (by omega)
  obtain ⟨x, hx⟩ : ∃ x : En, x = ⟨ky, d, [(s10, 1 + r), (s15, -1 - r)]⟩ := ⟨_, rfl⟩
  have HPn := Lib.hid (fun w' (h : Mor w w') g (hl : Lq w' (some ⟨g, 0, none⟩) 2 2 [(s10, 1 + r), (s15, -1 - r)]) (hc : postc b x ≠ 0) => show Calls Try.prog 22 #[bv A n c X m k b.shut, .agg #[.string ky, .int .i64 d, .slice (some ⟨g, 0, none⟩) 2 2]] w' (PostNo w' (postc b x)) by
    subst hx; exact post_no A n c X m k b ⟨ky, d, _⟩ _ 2 2 w' (hb.mor h) hl wk hc)
  have HPy := Lib.hid (fun w' (h : Mor w w') g (hl : Lq w' (some ⟨g, 0, none⟩) 2 2 [(s10, 1 + r), (s15, -1 - r)]) (hc : postc b x = 0) => show Calls Try.prog 22 #[bv A n c X m k b.shut, .agg #[.string ky, .int .i64 d, .slice (some ⟨g, 0, none⟩) 2 2]] w' (PostYes w' (postb b x)) by
    subst hx; exact post_yes A n c X m k b ⟨ky, d, _⟩ _ 2 2 w' (hb.mor h) hl wk hc)
  have HB := Lib.hid hb
  obtain ⟨_, _, _, _, o1⟩ := one_prof
  have HOne := Lib.hid (And.intro one_look.1 (And.intro o1 one_look.2.2.2.2))
  generalize hsh : b.shut = sh at *
  have HSh := Lib.hid hsh
  have HX := Lib.hid hx
  clear hb w1 w2 o1 hsh hx
  go_enter Try.func13, Try.ntmps13
  go_wp2_with fail
  refine (plain_any _).mono ?_
  rintro e w2 ⟨g, rfl, hq, hm⟩
  have hP := (Bk.new w 25 #[.slice A n c, .slice X m k, .int .i64 sh]).mor hm
  have hM2 := (Mor.refl w).alloc.trans' hm
  obtain ⟨bP, hbP⟩ : ∃ g, g = w.heap.size := ⟨_, rfl⟩
  rw [← hbP] at hP ⊢
  have HP := Lib.hid (fun w' (h : Mor w2 w') => hP.mor h)
  have HQ := Lib.hid hq
  have HM2 := Lib.hid hM2
  clear hP hM2 hq hm hbP
  go_wp2_with fail
  refine (sale_any ka 5 7 _ (by omega) (by omega)).mono ?_
  rintro e w3 ⟨g2, rfl, hs, hm⟩
  have HQ3 := Lib.hid (HQ.out.mor hm)
  have HS2 := Lib.hid (lq_two hs two_max two_max)
  have HM23 := Lib.hid hm
  clear hs hm HQ
  go_wp2_with fail
  refine (post_yes _ _ _ _ _ _ plainB (saleE ka 5 7) _ _ _ _ HQ3.out HS2.out one_max (plain_post 7 rfl)).mono ?_
  intro e w4 h4
  obtain ⟨A4, n4, c4, X4, m4, k4, rfl, hq4, ho4, hm⟩ := postYes_bq h4
  have HM24 := Lib.hid (HM23.out.trans' hm)
  have HT1 := Lib.hid (fun w' (h : Mor w4 w') => sheet_ok A4 n4 c4 X4 m4 k4 oneB 5 w' (hq4.mor h) HOne.out.1)
  rw [HOne.out.2.1, HOne.out.2.2] at HT1
  rw [show (postb plainB (saleE ka 5 7)).shut = -1 from HOne.out.2.2]
  clear h4 hq4 ho4 hm HQ3 HS2
  generalize -kS oneB.en 0 5 1 oneB.ac = z1 at *
  generalize -kS oneB.en 0 5 2 oneB.ac = z2 at *
  go_wp2_with fail
  refine (HT1.out _ (Mor.refl _).alloc).mono ?_
  rintro e w5 ⟨rfl, hm⟩
  have HM25 := Lib.hid ((HM24.out.alloc).trans' hm)
  have HM5 := Lib.hid (HM2.out.trans' HM25.out)
  clear hm HT1
  go_wp2_with (go_at_call 17; (with_reducible refine (HD.out _).mono ?_); rintro e w1 ⟨rfl, rfl⟩)
  have hP := HP.out _ HM25.out
  have HKp := Lib.hid (fun w' (h : Mor w5 w') => show w'.cell? ⟨bP, 0, none⟩ = some (.slice A n c) ∧ w'.cell? ⟨bP, 1, none⟩ = some (.slice X m k) ∧ w'.cell? ⟨bP, 2, none⟩ = some (.int .i64 sh) from ⟨by rw [(hP.mor h).cell]; rfl, by rw [(hP.mor h).cell]; rfl, by rw [(hP.mor h).cell]; rfl⟩)
  obtain ⟨c0, c1, c2⟩ := HKp.out _ (Mor.refl w5)
  have cl := hP.lt
  clear hP
  by_cases hc : postc b x = 0
  · have HSx := Lib.hid (show (postb b x).shut = sh by rw [(post_ac b x).2, HSh.out])
    have HPy' := Lib.hid (fun w' (h : Mor w w') g (hl : Lq w' (some ⟨g, 0, none⟩) 2 2 [(s10, 1 + r), (s15, -1 - r)]) => show Calls Try.prog 22 #[bv A n c X m k sh, .agg #[.string ky, .int .i64 d, .slice (some ⟨g, 0, none⟩) 2 2]] w' (fun e w'' => ∃ A n c X m k, e = .returned (.tuple #[bv A n c X m k sh, .int .i64 0]) ∧ OwnB w'' w'.heap.size (.slice A n c) (.slice X m k) n m (postb b x) ∧ Mor w' w'') by
      have h2 := HPy.out w' h g hl hc
      unfold PostYes at h2
      rw [HSx.out] at h2
      exact h2)
    have hbo := (post_pre hc).1
    have hn24 : n ≤ 24 := by rw [← HB.out.ac.length]; exact (acc_ok hbo.ac).1
    have HSrt := Lib.hid (acc_ok hbo.ac).2.2.2
    have HSame := Lib.hid (fun i j (hi : i < b.ac.length) (hj : j < b.ac.length) i1 i2 j1 j2 hk f t q => adds_same hc (1 + r) (by rw [HX.out]; show [(s10, 1 + r), (s15, -1 - r)] = [(s10, 1 + r), (s15, -(1 + r))]; rw [show -(1 + r) = -1 - r by omega]) (i := i) (j := j) hi hj i1 i2 j1 j2 hk f t q)
    have HBo := Lib.hid hbo
    have HBy := Lib.hid (post_ok hc)
    clear hc hbo
    go_cut [10, 15] (fun s10 s15 wx => Hid (PutY w5 wx sh (postb b x) s10 s15))
    case first =>
      go_region_held3 (fun w' => w'.cell? ⟨bP, 0, none⟩ = some (.slice A n c) ∧ w'.cell? ⟨bP, 1, none⟩ = some (.slice X m k) ∧ w'.cell? ⟨bP, 2, none⟩ = some (.int .i64 sh)) (first | exact HKp.out _ (by repeat (first | exact Mor.refl _ | apply Mor.alloc | apply Mor.more | apply Mor.drewN | apply Mor.drew | (refine Mor.setC ?_ (by first | omega | (simp [size_more]; omega) | simp [size_more]))))) (first | (go_at_call 23; (with_reducible refine (HR.out _).mono ?_); rintro e w1 ⟨rfl, rfl⟩) | (go_at_call 22; (with_reducible refine (HPy'.out _ (HM5.out.trans' (by repeat (first | exact Mor.refl _ | apply Mor.alloc | apply Mor.more | apply Mor.drewN | apply Mor.drew | (refine Mor.setC ?_ (by first | omega | (simp [size_more]; omega) | simp [size_more]))))) _ (lq_at (by repeat (first | (refine newAt (by simp)) | apply Bk.alloc | apply Bk.more | apply Bk.drewN | apply Bk.drew)))).mono ?_); intro e w9 h9; obtain ⟨A6, n6, c6, X6, m6, k6, rfl, hB, bs, dr, rfl⟩ := h9))
      all_goals (go_wp2_with fail)
      all_goals go_meet
      all_goals exact Lib.hid (by first | exact putY_first hB | exact putY_mid hB | exact putY_last hB)
    case rest =>
      obtain ⟨gY, A6, n6, c6, X6, m6, k6, rfl, rfl, hY, ⟨Bs, hO⟩, hM6⟩ := hcut.out
      obtain ⟨A6', c6', X6', k6', e1, e2, hQ6⟩ := hO.bq
      injection e1 with e1 _ e3
      injection e2 with e4 _ e6
      subst e1 e3 e4 e6
      have HQ6 := Lib.hid hQ6
      have HY := Lib.hid (fun w' (h : Mor wc w') => hY.mor h)
      have HM6 := Lib.hid (HM5.out.trans' hM6)
      have HM56 := Lib.hid hM6
      have HS1 := Lib.hid (fun w' (h : Mor w w') => bsearch_ac 34 (fun _ _ => rfl) A n c b.ac s10 w' (HB.out.ac.si.mor h) HB.out.ac.length (by omega) HSrt.out (fun s v w => clo_ten s s10 v w))
      have HS2 := Lib.hid (fun w' (h : Mor w w') => bsearch_ac 36 (fun _ _ => rfl) A n c b.ac s15 w' (HB.out.ac.si.mor h) HB.out.ac.length (by omega) HSrt.out (fun s v w => clo_fif s s15 v w))
      obtain ⟨c0, c1, c2⟩ := HKp.out _ hM6
      have pl := (HP.out _ (HM25.out.trans' hM6)).lt
      clear hY hO hM6 hQ6
      go_wp2_with fail
      refine (HS1.out _ HM6.out).mono ?_
      rintro e w7 ⟨f7, k7, rfl, ⟨q1, q2, q3⟩, hm7⟩
      have HM7 := Lib.hid (HM6.out.trans' hm7)
      have HM57 := Lib.hid (HM56.out.trans' hm7)
      have HMc7 := Lib.hid hm7
      have HQ23 := Lib.hid (And.intro q2 q3)
      obtain ⟨c0, c1, c2⟩ := HKp.out _ HM57.out
      have pl := (HP.out _ (HM25.out.trans' HM57.out)).lt
      clear hm7 q2 q3 HS1
      go_wp2_with fail
      refine (HS2.out _ HM7.out).mono ?_
      rintro e w8 ⟨f8, k8, rfl, ⟨p1, p2, p3⟩, hm8⟩
      have HM8 := Lib.hid (HM7.out.trans' hm8)
      have HM58 := Lib.hid (HM57.out.trans' hm8)
      have HMc8 := Lib.hid (HMc7.out.trans' hm8)
      have HP23 := Lib.hid (And.intro p2 p3)
      obtain ⟨c0, c1, c2⟩ := HKp.out _ HM58.out
      have pl := (HP.out _ (HM25.out.trans' HM58.out)).lt
      clear hm8 p2 p3 HS2
      by_cases h7 : k7 < n
      · have hlt7 : (k7 : Int) < (n : Int) := by omega
        have hgb7 : decide ((n : Int) ≤ (k7 : Int)) = false := by simp; omega
        have hng7 : ¬ (n : Int) ≤ (k7 : Int) := by omega
        have hz7 : (0 : Int) ≤ (k7 : Int) := by omega
        have n7 : ¬ n ≤ k7 := by omega
        have nd7 : decide (n ≤ k7) = false := by simpa using n7
        by_cases h8 : k8 < n
        · have hlt8 : (k8 : Int) < (n : Int) := by omega
          have hgb8 : decide ((n : Int) ≤ (k8 : Int)) = false := by simp; omega
          have hng8 : ¬ (n : Int) ≤ (k8 : Int) := by omega
          have hz8 : (0 : Int) ≤ (k8 : Int) := by omega
          have n8 : ¬ n ≤ k8 := by omega
          have nd8 : decide (n ≤ k8) = false := by simpa using n8
          obtain ⟨x7, hA, hxb, d0, d1⟩ := (HB.out.ac.si.mor HM8.out).at_ k7 (by rw [HB.out.ac.length]; exact h7)
          obtain ⟨x8, hA', hxb', d0', d1'⟩ := (HB.out.ac.si.mor HM8.out).at_ k8 (by rw [HB.out.ac.length]; exact h8)
          subst hA
          injection hA' with hA'
          subst hA'
          have HKd := Lib.hid (fun hk => HSame.out k7 k8 (by rw [HB.out.ac.length]; exact h7) (by rw [HB.out.ac.length]; exact h8) HQ23.out.1 (fun i a b => HQ23.out.2 i a (by rw [← HB.out.ac.length]; exact b)) HP23.out.1 (fun i a b => HP23.out.2 i a (by rw [← HB.out.ac.length]; exact b)) hk)
          generalize am b.ac k7 = a7 at *
          generalize am b.ac k8 = a8 at *
          by_cases hk : a7 = a8
          · have hkb : (a7 != a8) = false := by simpa using hk
            have hkd : decide (a7 = a8) = true := by simpa using hk
            have hbo := HBo.out
            have hby := HBy.out
            have hE := HKd.out hk
            have hac := (post_ac b x).1
            have hpv : profv (postb b x) 0 d = profv b 0 d := by unfold profv; rw [hac, hE, hE]
            have HS1 := Lib.hid (fun w' (h : Mor w w') => sheet_ok (some x7) n c X m k b d w' (HB.out.mor h) (lookc_of hbo t0 (by omega)))
            have HS2 := Lib.hid (fun w' (h : Mor wc w') => sheet_ok A6 n6 c6 X6 m6 k6 (postb b x) d w' (HQ6.out.mor h) (lookc_of hby t0 (by omega)))
            have HP1 := Lib.hid (fun w' (h : Mor w w') => profit_ok (some x7) n c X m k b 0 d w' (HB.out.mor h) (profc_of hbo (by omega) t0 (by omega)))
            have HP2 := Lib.hid (fun w' (h : Mor wc w') => profit_ok A6 n6 c6 X6 m6 k6 (postb b x) 0 d w' (HQ6.out.mor h) (profc_of hby (by omega) t0 (by omega)))
            rw [HSh.out] at HS1 HP1
            rw [HSx.out, hac, hE, hE, hE] at HS2
            rw [HSx.out, hpv] at HP2
            clear hpv hE
            generalize kS b.en 0 d 0 b.ac = q0 at *
            generalize -kS b.en 0 d 1 b.ac = q1 at *
            generalize -kS b.en 0 d 2 b.ac = q2 at *
            generalize profv b 0 d = q3 at *
            clear HSame HBo HBy HSrt HPy HPn HPy' HQ23 HP23 hbo hby hac HKd HSx HSh HX HQ6
            go_wp2_with fail
            go_big_region
            go_wp2_with fail
            refine (HS1.out _ HM8.out.drewN).mono ?_
            rintro e w9 ⟨rfl, hm9⟩
            have HM9 := Lib.hid (HM8.out.drewN.trans' hm9)
            have HM59 := Lib.hid (HM58.out.drewN.trans' hm9)
            have HMc9 := Lib.hid (HMc8.out.drewN.trans' hm9)
            have hY9 := HY.out _ HMc9.out
            have y0 := hY9.cell 0
            have y1 := hY9.cell 1
            have y2 := hY9.cell 2
            have yl := hY9.lt
            simp at y0 y1 y2
            clear hY9 hm9 HS1 c0 c1 c2 pl
            go_wp2_with fail
            refine (HS2.out _ HMc9.out).mono ?_
            rintro e w10 ⟨rfl, hm10⟩
            have HM10 := Lib.hid (HM9.out.trans' hm10)
            have HM510 := Lib.hid (HM59.out.trans' hm10)
            have HMc10 := Lib.hid (HMc9.out.trans' hm10)
            obtain ⟨c0, c1, c2⟩ := HKp.out _ HM510.out
            have pl := (HP.out _ (HM25.out.trans' HM510.out)).lt
            clear hm10 HS2 y0 y1 y2 yl
            go_wp2_with fail
            refine (HP1.out _ HM10.out).mono ?_
            rintro e w11 ⟨rfl, hm11⟩
            have HM11 := Lib.hid (HM10.out.trans' hm11)
            have HMc11 := Lib.hid (HMc10.out.trans' hm11)
            have hY9 := HY.out _ HMc11.out
            have y0 := hY9.cell 0
            have y1 := hY9.cell 1
            have y2 := hY9.cell 2
            have yl := hY9.lt
            simp at y0 y1 y2
            clear hY9 hm11 HP1 c0 c1 c2 pl
            go_wp2_with fail
            refine (HP2.out _ HMc11.out).mono ?_
            rintro e w12 ⟨rfl, hm12⟩
            have HM12 := Lib.hid (HM11.out.trans' hm12)
            clear hm12 HP2 y0 y1 y2 yl
            go_wp2_with fail
            go_ret
            exact ⟨by simp, HM12.out.below⟩
          · have hkb : (a7 != a8) = true := by simpa using hk
            have hkd : decide (a7 = a8) = false := by simpa using hk
            go_wp2_with fail
            go_big_region
            go_wp2_with fail
            go_ret
            exact ⟨by simp, HM8.out.drewN.below⟩
        · have hge : (n : Int) ≤ (k8 : Int) := by omega
          have hgb : decide ((n : Int) ≤ (k8 : Int)) = true := by simpa using hge
          have n8 : n ≤ k8 := by omega
          have nd8 : decide (n ≤ k8) = true := by simpa using n8
          go_wp2_with fail
          go_big_region
          go_wp2_with fail
          go_ret
          exact ⟨by simp, HM8.out.drewN.below⟩
      · have hge : (n : Int) ≤ (k7 : Int) := by omega
        have hgb : decide ((n : Int) ≤ (k7 : Int)) = true := by simpa using hge
        go_wp2_with fail
        go_quiet (fail)
        go_wp2_with fail
        go_ret
        exact ⟨by simp, HM8.out.drewN.below⟩
  · have HPn' := Lib.hid (fun w' (h : Mor w w') g (hl : Lq w' (some ⟨g, 0, none⟩) 2 2 [(s10, 1 + r), (s15, -1 - r)]) => HPn.out w' h g hl hc)
    have hcb : (postc b x != 0) = true := by simpa using hc
    generalize postc b x = cd at *
    clear HPy HPn HSh HX
    go_wp2_with fail
    go_region_held3 (fun w' => w'.cell? ⟨bP, 0, none⟩ = some (.slice A n c) ∧ w'.cell? ⟨bP, 1, none⟩ = some (.slice X m k) ∧ w'.cell? ⟨bP, 2, none⟩ = some (.int .i64 sh)) (first | exact HKp.out _ (by repeat (first | exact Mor.refl _ | apply Mor.alloc | apply Mor.more | apply Mor.drewN | apply Mor.drew | (refine Mor.setC ?_ (by first | omega | (simp [size_more]; omega) | simp [size_more]))))) (first | (go_at_call 23; (with_reducible refine (HR.out _).mono ?_); rintro e w1 ⟨rfl, rfl⟩) | (go_at_call 22; (with_reducible refine (HPn'.out _ (HM5.out.trans' (by repeat (first | exact Mor.refl _ | apply Mor.alloc | apply Mor.more | apply Mor.drewN | apply Mor.drew | (refine Mor.setC ?_ (by first | omega | (simp [size_more]; omega) | simp [size_more]))))) _ (lq_at (by repeat (first | (refine newAt (by simp)) | apply Bk.alloc | apply Bk.more | apply Bk.drewN | apply Bk.drew)))).mono ?_); intro e w9 h9; obtain ⟨rfl, bs, dr, rfl⟩ := h9))
    all_goals (go_wp2_with fail)
    all_goals go_ret
    all_goals exact ⟨by simp, Mor.below (HM5.out.trans' (by repeat (first | exact Mor.refl _ | apply Mor.alloc | apply Mor.more | apply Mor.drewN | apply Mor.drew)))⟩

end Go.Proofs.Ytpgefclnplmlkaa.trialAdds
