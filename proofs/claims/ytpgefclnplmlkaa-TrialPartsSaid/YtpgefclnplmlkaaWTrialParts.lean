/- The walk of talkeep.TrialParts. -/
import Derived.Test.YtpgefclnplmlkaaTriD
import Derived.Test.YtpgefclnplmlkaaSorB
import Derived.Deep.RegionHeld3
namespace Go.Proofs.Ytpgefclnplmlkaa.trialParts
open Go.ChangeShapes Go.WideShapes Go.ChangeAt Go.RowKit Go.PlainAid
set_option linter.unusedVariables false

theorem ofS_split (es : List En) (s : ByteArray) {f m t : Int} (h1 : f ≤ m) (h2 : m < t) : ofS es s f m + ofS es s (m + 1) t = ofS es s f t := by
  unfold ofS
  rw [← sm_add]
  refine sm_congr fun e _ => ?_
  unfold enOf
  by_cases a1 : e.day < f ∨ m < e.day
  · rw [if_pos a1]
    by_cases a2 : e.day < m + 1 ∨ t < e.day
    · rw [if_pos a2, if_pos (by omega)]; rfl
    · rw [if_neg a2, if_neg (by omega), Int.zero_add]
  · rw [if_neg a1, if_pos (by omega), if_neg (by omega), Int.add_zero]
theorem kS_split (es : List En) {f m t : Int} (h1 : f ≤ m) (h2 : m < t) (q : Nat) (ac : List Ln) : kS es f m q ac + kS es (m + 1) t q ac = kS es f t q ac := by
  unfold kS
  rw [← sm_add]
  refine sm_congr fun a _ => ?_
  by_cases h : a.2 = (q : Int)
  · rw [if_pos h, if_pos h, if_pos h, ofS_split es a.1 h1 h2]
  · rw [if_neg h, if_neg h, if_neg h]; rfl
theorem prof_split (b : Bok) {f m t : Int} (h1 : f ≤ m) (h2 : m < t) : profv b f m + profv b (m + 1) t = profv b f t := by
  unfold profv
  rw [← kS_split b.en h1 h2 3, ← kS_split b.en h1 h2 4]
  omega

set_option maxRecDepth 100000 in
set_option maxHeartbeats 3200000 in
theorem trialParts_walk (w : World) (A : Option Addr) (n c : Nat) (X : Option Addr) (m k : Nat) (b : Bok) (hb : Bq w A n c X m k b) (v1 : Int) (w1 : (Lit.int .i64 v1).wf = true) (v2 : Int) (w2 : (Lit.int .i64 v2).wf = true) (v3 : Int) (w3 : (Lit.int .i64 v3).wf = true) :
    Calls Try.prog 14 #[bv A n c X m k b.shut, .int .i64 v1, .int .i64 v2, .int .i64 v3] w fun e w' => e = .returned (.bool true) ∧ Below w.heap.size w w' := by
  have HPy := Lib.hid (fun w' (h : Mor w w') f t (hl : profc b f t = 0) => profit_ok A n c X m k b f t w' (hb.mor h) hl)
  have HPn := Lib.hid (fun w' (h : Mor w w') f t (hl : profc b f t ≠ 0) => profit_no A n c X m k b f t w' (hb.mor h) hl)
  obtain ⟨_, _, o1, o2, _⟩ := one_prof
  have HOne := Lib.hid (And.intro o1 (And.intro o2 one_look.2.2.2.2))
  have H1 := Lib.hid (fun w => within_any v1 292193 w (by omega) (by omega))
  have x0 := wi_lo v1 292193 (by omega)
  have x9 := wi_hi v1 292193 (by omega)
  generalize wi v1 292193 = x at *
  have H2 := Lib.hid (fun w => day_any v2 w)
  have y0 := wi_lo v2 292194 (by omega)
  have y9 := wi_hi v2 292194 (by omega)
  generalize wi v2 292194 = y at *
  have H3 := Lib.hid (fun w => day_any v3 w)
  have z0 := wi_lo v3 292194 (by omega)
  have z9 := wi_hi v3 292194 (by omega)
  generalize wi v3 292194 = z at *
  have HS := Lib.hid (fun W => sort3_any x y z W)
  generalize b.shut = sh at *
  clear hb w1 w2 w3 o1 o2
  go_enter Try.func14, Try.ntmps14
  go_wp2_with fail
  refine (plain_any _).mono ?_
  rintro e w2 ⟨g, rfl, hq, hm⟩
  have hP := (Bk.new w 25 #[.slice A n c, .slice X m k, .int .i64 sh]).mor hm
  have hM2 := (Mor.refl w).alloc.trans' hm
  obtain ⟨bP, hbP⟩ : ∃ g, g = w.heap.size := ⟨_, rfl⟩
  rw [← hbP] at hP ⊢
  have HP := Lib.hid (fun w' (h : Mor w2 w') => hP.mor h)
  have HQ := Lib.hid hq
  have HM2 := Lib.hid hM2
  clear hP hM2 hq hm hbP
  go_wp2_with fail
  refine (sale_any ka 5 7 _ (by omega) (by omega)).mono ?_
  rintro e w3 ⟨g2, rfl, hs, hm⟩
  have HQ3 := Lib.hid (HQ.out.mor hm)
  have HS2 := Lib.hid (lq_two hs two_max two_max)
  have HM23 := Lib.hid hm
  clear hs hm HQ
  go_wp2_with fail
  refine (post_yes _ _ _ _ _ _ plainB (saleE ka 5 7) _ _ _ _ HQ3.out HS2.out one_max (plain_post 7 rfl)).mono ?_
  intro e w4 h4
  obtain ⟨A4, n4, c4, X4, m4, k4, rfl, hq4, ho4, hm⟩ := postYes_bq h4
  have HM24 := Lib.hid (HM23.out.trans' hm)
  have HT1 := Lib.hid (fun w' (h : Mor w4 w') => profit_ok A4 n4 c4 X4 m4 k4 oneB 5 5 w' (hq4.mor h) HOne.out.1)
  rw [HOne.out.2.1, HOne.out.2.2] at HT1
  rw [show (postb plainB (saleE ka 5 7)).shut = -1 from HOne.out.2.2]
  clear h4 hq4 ho4 hm HQ3 HS2
  go_wp2_with fail
  refine (HT1.out _ (Mor.refl _).alloc).mono ?_
  rintro e w5 ⟨rfl, hm⟩
  have HM25 := Lib.hid ((HM24.out.alloc).trans' hm)
  have HM5 := Lib.hid (HM2.out.trans' HM25.out)
  clear hm HT1
  go_wp2_with (first | (go_at_call 17; (with_reducible refine (H2.out _).mono ?_); rintro e w1 ⟨rfl, rfl⟩) | (go_at_call 17; (with_reducible refine (H3.out _).mono ?_); rintro e w1 ⟨rfl, rfl⟩) | (go_at_call 23; (with_reducible refine (H1.out _).mono ?_); rintro e w1 ⟨rfl, rfl⟩))
  refine (HS.out _).mono ?_
  rintro e w6 ⟨rfl, lo, mi, hi, k0, hab, hbc, hPp, hw2⟩
  have hbd := hPp (fun v => 0 ≤ v ∧ v < 292194) ⟨x0, by omega⟩ ⟨y0, y9⟩ ⟨z0, z9⟩
  have ha0 : 0 ≤ lo := hbd.1.1
  have hc9 : hi ≤ 292193 := by have := hbd.2.2.2; omega
  clear hPp hbd
  have hm : Mor w5 w6 := by rw [hw2]; exact ((Mor.refl w5).alloc).drewN
  have c0 : w6.cell? ⟨w5.heap.size, 0, none⟩ = some (.int .i64 lo) := by rw [hw2]; simp [go_sem]
  have c1 : w6.cell? ⟨w5.heap.size, 1, none⟩ = some (.int .i64 mi) := by rw [hw2]; simp [go_sem]
  have c2 : w6.cell? ⟨w5.heap.size, 2, none⟩ = some (.int .i64 hi) := by rw [hw2]; simp [go_sem]
  have hG : ∃ T, Bk w6 w5.heap.size T #[.int .i64 lo, .int .i64 mi, .int .i64 hi] := ⟨_, by rw [hw2]; exact (Bk.new w5 _ _).drewN _⟩
  clear hw2
  obtain ⟨T, hG⟩ := hG
  generalize w5.heap.size = gl at *
  by_cases hmi : mi = 292193
  · subst hmi
    have HM6 := Lib.hid (HM5.out.trans' hm)
    clear hm hG HPy HPn HS H1 H2 H3
    go_wp2_with fail
    go_ret
    exact ⟨by simp, HM6.out.below⟩
  · have hP := (HP.out _ HM25.out).mor hm
    have HKp := Lib.hid (fun w' (h : Mor w6 w') => show w'.cell? ⟨bP, 0, none⟩ = some (.slice A n c) ∧ w'.cell? ⟨bP, 1, none⟩ = some (.slice X m k) ∧ w'.cell? ⟨bP, 2, none⟩ = some (.int .i64 sh) ∧ w'.cell? ⟨gl, 0, none⟩ = some (.int .i64 lo) ∧ w'.cell? ⟨gl, 1, none⟩ = some (.int .i64 mi) ∧ w'.cell? ⟨gl, 2, none⟩ = some (.int .i64 hi) from ⟨by rw [(hP.mor h).cell]; rfl, by rw [(hP.mor h).cell]; rfl, by rw [(hP.mor h).cell]; rfl, by rw [(hG.mor h).cell]; rfl, by rw [(hG.mor h).cell]; rfl, by rw [(hG.mor h).cell]; rfl⟩)
    have HM6 := Lib.hid (HM5.out.trans' hm)
    obtain ⟨d0, d1, d2, -, -, -⟩ := HKp.out _ (Mor.refl w6)
    have dl := hP.lt
    have gll := hG.lt
    have hwv : IntKind.i64.wrap (mi + 1) = mi + 1 := IntWalk.i64_in _ (by omega)
    clear hP hG hm
    by_cases hc : bookc b = 0
    · have hbo := (bookc_iff b).1 hc
      have HA := Lib.hid (fun w' (h : Mor w w') => HPy.out w' h lo mi (profc_of hbo ha0 hab (by omega)))
      have HB := Lib.hid (fun w' (h : Mor w w') => HPy.out w' h (mi + 1) (max (mi + 1) hi) (profc_of hbo (by omega) (by omega) (by omega)))
      have HC := Lib.hid (fun w' (h : Mor w w') => HPy.out w' h lo (max (mi + 1) hi) (profc_of hbo ha0 (by omega) (by omega)))
      rw [← prof_split b hab (show mi < max (mi + 1) hi by omega)] at HC
      have b1 : -34560000000000000 ≤ profv b lo mi ∧ profv b lo mi ≤ 34560000000000000 := by
        have := kS_bdb hbo lo mi 3
        have := kS_bdb hbo lo mi 4
        unfold profv; omega
      have b2 : -34560000000000000 ≤ profv b (mi + 1) (max (mi + 1) hi) ∧ profv b (mi + 1) (max (mi + 1) hi) ≤ 34560000000000000 := by
        have := kS_bdb hbo (mi + 1) (max (mi + 1) hi) 3
        have := kS_bdb hbo (mi + 1) (max (mi + 1) hi) 4
        unfold profv; omega
      generalize profv b lo mi = P1 at *
      generalize profv b (mi + 1) (max (mi + 1) hi) = P2 at *
      clear hc hbo HPy HPn HS H1 H2 H3
      go_wp2_with fail
      go_region_held3 (fun w' => w'.cell? ⟨bP, 0, none⟩ = some (.slice A n c) ∧ w'.cell? ⟨bP, 1, none⟩ = some (.slice X m k) ∧ w'.cell? ⟨bP, 2, none⟩ = some (.int .i64 sh) ∧ w'.cell? ⟨gl, 0, none⟩ = some (.int .i64 lo) ∧ w'.cell? ⟨gl, 1, none⟩ = some (.int .i64 mi) ∧ w'.cell? ⟨gl, 2, none⟩ = some (.int .i64 hi)) (first | exact HKp.out _ (by repeat (first | exact Mor.refl _ | apply Mor.alloc | apply Mor.more | apply Mor.drewN | apply Mor.drew))) (first | (go_at_call 31; (with_reducible refine (HA.out _ (by repeat (first | exact HM6.out | apply Mor.alloc | apply Mor.more | apply Mor.drewN | apply Mor.drew))).mono ?_); rintro e w9 ⟨rfl, bs, dr, rfl⟩))
      go_wp2_with fail
      go_region_held3 (fun w' => w'.cell? ⟨bP, 0, none⟩ = some (.slice A n c) ∧ w'.cell? ⟨bP, 1, none⟩ = some (.slice X m k) ∧ w'.cell? ⟨bP, 2, none⟩ = some (.int .i64 sh) ∧ w'.cell? ⟨gl, 0, none⟩ = some (.int .i64 lo) ∧ w'.cell? ⟨gl, 1, none⟩ = some (.int .i64 mi) ∧ w'.cell? ⟨gl, 2, none⟩ = some (.int .i64 hi)) (first | exact HKp.out _ (by repeat (first | exact Mor.refl _ | apply Mor.alloc | apply Mor.more | apply Mor.drewN | apply Mor.drew))) (first | (go_at_call 31; (with_reducible refine (HB.out _ (by repeat (first | exact HM6.out | apply Mor.alloc | apply Mor.more | apply Mor.drewN | apply Mor.drew))).mono ?_); rintro e w9 ⟨rfl, bs2, dr2, rfl⟩))
      go_wp2_with fail
      go_region_held3 (fun w' => w'.cell? ⟨bP, 0, none⟩ = some (.slice A n c) ∧ w'.cell? ⟨bP, 1, none⟩ = some (.slice X m k) ∧ w'.cell? ⟨bP, 2, none⟩ = some (.int .i64 sh) ∧ w'.cell? ⟨gl, 0, none⟩ = some (.int .i64 lo) ∧ w'.cell? ⟨gl, 1, none⟩ = some (.int .i64 mi) ∧ w'.cell? ⟨gl, 2, none⟩ = some (.int .i64 hi)) (first | exact HKp.out _ (by repeat (first | exact Mor.refl _ | apply Mor.alloc | apply Mor.more | apply Mor.drewN | apply Mor.drew))) (first | (go_at_call 31; (with_reducible refine (HC.out _ (by repeat (first | exact HM6.out | apply Mor.alloc | apply Mor.more | apply Mor.drewN | apply Mor.drew))).mono ?_); rintro e w9 ⟨rfl, bs3, dr3, rfl⟩))
      go_wp2_with fail
      go_ret
      exact ⟨by simp, Mor.below (by repeat (first | exact HM6.out | apply Mor.alloc | apply Mor.more | apply Mor.drewN | apply Mor.drew))⟩
    · have HA := Lib.hid (fun w' (h : Mor w w') => HPn.out w' h lo mi (by rw [(codes_ne hc 0 _ _).2]; exact hc))
      have HB := Lib.hid (fun w' (h : Mor w w') => HPn.out w' h (mi + 1) (max (mi + 1) hi) (by rw [(codes_ne hc 0 _ _).2]; exact hc))
      have HC := Lib.hid (fun w' (h : Mor w w') => HPn.out w' h lo (max (mi + 1) hi) (by rw [(codes_ne hc 0 _ _).2]; exact hc))
      rw [(codes_ne hc 0 _ _).2] at HA HB HC
      generalize bookc b = r at *
      have hr : (r != 0) = true := by simpa using hc
      clear hc HPy HPn HS H1 H2 H3
      go_wp2_with fail
      go_region_held3 (fun w' => w'.cell? ⟨bP, 0, none⟩ = some (.slice A n c) ∧ w'.cell? ⟨bP, 1, none⟩ = some (.slice X m k) ∧ w'.cell? ⟨bP, 2, none⟩ = some (.int .i64 sh) ∧ w'.cell? ⟨gl, 0, none⟩ = some (.int .i64 lo) ∧ w'.cell? ⟨gl, 1, none⟩ = some (.int .i64 mi) ∧ w'.cell? ⟨gl, 2, none⟩ = some (.int .i64 hi)) (first | exact HKp.out _ (by repeat (first | exact Mor.refl _ | apply Mor.alloc | apply Mor.more | apply Mor.drewN | apply Mor.drew))) (first | (go_at_call 31; (with_reducible refine (HA.out _ (by repeat (first | exact HM6.out | apply Mor.alloc | apply Mor.more | apply Mor.drewN | apply Mor.drew))).mono ?_); rintro e w9 ⟨rfl, bs, dr, rfl⟩))
      go_wp2_with fail
      go_region_held3 (fun w' => w'.cell? ⟨bP, 0, none⟩ = some (.slice A n c) ∧ w'.cell? ⟨bP, 1, none⟩ = some (.slice X m k) ∧ w'.cell? ⟨bP, 2, none⟩ = some (.int .i64 sh) ∧ w'.cell? ⟨gl, 0, none⟩ = some (.int .i64 lo) ∧ w'.cell? ⟨gl, 1, none⟩ = some (.int .i64 mi) ∧ w'.cell? ⟨gl, 2, none⟩ = some (.int .i64 hi)) (first | exact HKp.out _ (by repeat (first | exact Mor.refl _ | apply Mor.alloc | apply Mor.more | apply Mor.drewN | apply Mor.drew))) (first | (go_at_call 31; (with_reducible refine (HB.out _ (by repeat (first | exact HM6.out | apply Mor.alloc | apply Mor.more | apply Mor.drewN | apply Mor.drew))).mono ?_); rintro e w9 ⟨rfl, bs2, dr2, rfl⟩))
      go_wp2_with fail
      go_region_held3 (fun w' => w'.cell? ⟨bP, 0, none⟩ = some (.slice A n c) ∧ w'.cell? ⟨bP, 1, none⟩ = some (.slice X m k) ∧ w'.cell? ⟨bP, 2, none⟩ = some (.int .i64 sh) ∧ w'.cell? ⟨gl, 0, none⟩ = some (.int .i64 lo) ∧ w'.cell? ⟨gl, 1, none⟩ = some (.int .i64 mi) ∧ w'.cell? ⟨gl, 2, none⟩ = some (.int .i64 hi)) (first | exact HKp.out _ (by repeat (first | exact Mor.refl _ | apply Mor.alloc | apply Mor.more | apply Mor.drewN | apply Mor.drew))) (first | (go_at_call 31; (with_reducible refine (HC.out _ (by repeat (first | exact HM6.out | apply Mor.alloc | apply Mor.more | apply Mor.drewN | apply Mor.drew))).mono ?_); rintro e w9 ⟨rfl, bs3, dr3, rfl⟩))
      go_wp2_with fail
      go_ret
      exact ⟨by simp, Mor.below (by repeat (first | exact HM6.out | apply Mor.alloc | apply Mor.more | apply Mor.drewN | apply Mor.drew))⟩

end Go.Proofs.Ytpgefclnplmlkaa.trialParts
