/- The walk of talkeep.BookTwice. -/
import Derived.Test.YtpgefclnplmlkaaBookS
namespace Go.Proofs.Ytpgefclnplmlkaa.bookTwice
open Go.ChangeShapes Go.WideShapes Go.ChangeAt Go.RowKit Go.PlainAid
set_option linter.unusedVariables false

set_option maxRecDepth 100000 in
set_option maxHeartbeats 3200000 in
theorem bookTwice_walk (w : World) (A : Option Addr) (n c : Nat) (X : Option Addr) (m k : Nat) (b : Bok) (hb : Bq w A n c X m k b) (ky : ByteArray) (wk : ky.size ≤ maxLen) (dy : Int) (wd : (Lit.int .i64 dy).wf = true) (B : Option Addr) (p q : Nat) (ls : List Ln) (hl : IsLn w B p q ls) :
    Calls Try.prog 7 #[bv A n c X m k b.shut, .agg #[.string ky, .int .i64 dy, .slice B p q]] w fun e w' => e = .returned (.bool true) ∧ Below w.heap.size w w' := by
  obtain ⟨x, hx⟩ : ∃ x : En, x = ⟨ky, dy, ls⟩ := ⟨_, rfl⟩
  have HPn := Lib.hid (fun w' (h : Mor w w') (hc : postc b x ≠ 0) => show Calls Try.prog 22 #[bv A n c X m k b.shut, .agg #[.string ky, .int .i64 dy, .slice B p q]] w' (PostNo w' (postc b x)) by
    subst hx; exact post_no A n c X m k b ⟨ky, dy, ls⟩ B p q w' (hb.mor h) (hl.lq.mor h) wk hc)
  have HPy := Lib.hid (fun w' (h : Mor w w') (hc : postc b x = 0) => show Calls Try.prog 22 #[bv A n c X m k b.shut, .agg #[.string ky, .int .i64 dy, .slice B p q]] w' (PostYes w' (postb b x)) by
    subst hx; exact post_yes A n c X m k b ⟨ky, dy, ls⟩ B p q w' (hb.mor h) (hl.lq.mor h) wk hc)
  have HPz := Lib.hid (fun w' (h : Mor w w') A' n' c' X' m' k' (hq : Bq w' A' n' c' X' m' k' (postb b x)) (hc : postc b x = 0) => show Calls Try.prog 22 #[bv A' n' c' X' m' k' (postb b x).shut, .agg #[.string ky, .int .i64 dy, .slice B p q]] w' (PostYes w' (postb b x)) by
    have h1 := post_again (post_ok hc) (post_pre hc).2.1 (post_mem hc)
    have h2 := post_yes A' n' c' X' m' k' (postb b x) x B p q w' hq (by rw [hx]; exact hl.lq.mor h) (by rw [hx]; exact wk) h1.1
    rw [h1.2] at h2
    rw [hx] at h2 ⊢
    exact h2)
  have HG := Lib.hid (fun w' A' n' c' X' m' k' (hq : Bq w' A' n' c' X' m' k' (postb b x)) (hc : postc b x = 0) => show Calls Try.prog 26 #[bv A' n' c' X' m' k' (postb b x).shut, .string ky] w' (GetYes w' x) by
    obtain ⟨i, hi, hf, hn⟩ := find_mem (post_ok hc).keys (post_mem hc)
    have h := get_yes A' n' c' X' m' k' (postb b x) x.key w' hq ((bookc_iff _).2 (post_ok hc)) i (by rw [← hq.length]; exact hi) hf
    rw [hn] at h
    rw [hx] at h ⊢
    exact h)
  have HSm := Lib.hid (fun w' (h : Mor w w') A' n' c' (hq : Lq w' A' n' c' x.ls) => show Calls Try.prog 27 #[.agg #[.string ky, .int .i64 dy, .slice A' n' c'], .agg #[.string ky, .int .i64 dy, .slice B p q]] w' fun e w'' => e = .returned (.bool true) ∧ Mor w' w'' by
    have h2 := rsame_any x x A' B n' c' p q w' hq (by rw [hx]; exact hl.lq.mor h)
    rw [decide_eq_true (rfl : x = x)] at h2
    rw [hx] at h2
    exact h2)
  have HCk := Lib.hid (fun w' A' n' c' X' m' k' (hq : Bq w' A' n' c' X' m' k' (postb b x)) (hc : postc b x = 0) => show Calls Try.prog 21 #[bv A' n' c' X' m' k' (postb b x).shut] w' fun e w'' => e = .returned (.int .i64 0) ∧ Mor w' w'' by
    have h := bcheck_any A' n' c' X' m' k' (postb b x) w' hq
    rw [(bookc_iff _).2 (post_ok hc)] at h
    exact h)
  have HKy := Lib.hid (show x.key = ky ∧ x.day = dy by rw [hx]; exact ⟨rfl, rfl⟩)
  generalize b.shut = sh at *
  clear hb wd hl hx
  go_enter Try.func7, Try.ntmps7
  go_wp2_with fail
  refine (begun_any _).mono ?_
  rintro e w2 ⟨rfl, hm⟩
  have hP := (C3.new w (.slice A n c) (.slice X m k) (.int .i64 sh) 25).mor ((Mor.refl _).alloc.trans' hm)
  have hX := (C3.new (w.alloc (.cells #[.slice A n c, .slice X m k, .int .i64 sh] 25)) (.string ky) (.int .i64 dy) (.slice B p q) 42).mor hm
  rw [← sz1] at hX
  have hM2 := ((Mor.refl w).alloc.alloc).trans' hm
  obtain ⟨bP, hbP⟩ : ∃ g, g = w.heap.size := ⟨_, rfl⟩
  rw [← hbP] at hP hX ⊢
  obtain ⟨bX, hbX⟩ : ∃ g, g = bP + 1 := ⟨_, rfl⟩
  rw [← hbX] at hX ⊢
  have HX := Lib.hid hX
  have HM2 := Lib.hid hM2
  obtain ⟨c0, c1, c2, cl⟩ := hP
  obtain ⟨e0, e1, e2, el⟩ := hX
  clear hM2 hm hbP hbX
  go_wp2_with fail
  by_cases hc : postc b x = 0
  · refine (HPy.out _ HM2.out hc).mono ?_
    intro e w3 h3
    obtain ⟨A3, n3, c3, X3, m3, k3, rfl, hq3, ho3, hm⟩ := postYes_bq h3
    have HQ3 := Lib.hid hq3
    have HM3 := Lib.hid hm
    have hX := HX.out.mor hm
    have HPz' := Lib.hid (fun w' (h : Mor w w') A' n' c' X' m' k' hq => HPz.out w' h A' n' c' X' m' k' hq hc)
    have HG' := Lib.hid (fun w' A' n' c' X' m' k' hq => HG.out w' A' n' c' X' m' k' hq hc)
    have HCk' := Lib.hid (fun w' A' n' c' X' m' k' hq => HCk.out w' A' n' c' X' m' k' hq hc)
    clear h3 hq3 ho3 hm hc HPz HG HCk HPn HPy c0 c1 c2 cl e0 e1 e2 el
    obtain ⟨e0, e1, e2, el⟩ := hX
    generalize hs : (postb b x).shut = s3 at *
    have HS3 := Lib.hid hs
    clear hs
    go_wp2_with fail
    refine (HPz'.out _ ((HM2.out.trans' HM3.out).alloc) _ _ _ _ _ _ (HQ3.out.mor (Mor.refl _).alloc)).mono ?_
    intro e w4 h4
    obtain ⟨A4, n4, c4, X4, m4, k4, rfl, hq4, ho4, hm⟩ := postYes_bq h4
    rw [HS3.out]
    have hY := (C3.new w3 (.slice A3 n3 c3) (.slice X3 m3 k3) (.int .i64 s3) 25).mor hm
    obtain ⟨bY, hbY⟩ : ∃ g, g = w3.heap.size := ⟨_, rfl⟩
    rw [← hbY] at hY ⊢
    have hM4 := (HM3.out.alloc).trans' hm
    have hX := HX.out.mor hM4
    have HM4 := Lib.hid hM4
    have HQ4 := Lib.hid hq4
    have HQ34 := Lib.hid (HQ3.out.mor ((Mor.refl _).alloc.trans' hm))
    have HY := Lib.hid hY
    clear h4 hq4 ho4 hm hM4 hbY e0 e1 e2 el HQ3
    obtain ⟨e0, e1, e2, el⟩ := hX
    obtain ⟨y0, y1, y2, yl⟩ := hY
    go_wp2_with fail
    refine (HG'.out _ _ _ _ _ _ _ (HQ34.out.mor (Mor.refl _).alloc)).mono ?_
    intro e w5 h5
    obtain ⟨A5, n5, c5, rfl, hq5, hm⟩ := getYes_lq h5
    rw [HKy.out.1, HKy.out.2]
    have hZ := (C3.new w4 (.slice A4 n4 c4) (.slice X4 m4 k4) (.int .i64 s3) 25).mor hm
    obtain ⟨bZ, hbZ⟩ : ∃ g, g = w4.heap.size := ⟨_, rfl⟩
    rw [← hbZ] at hZ ⊢
    have hM45 := (Mor.refl w4).alloc.trans' hm
    have hX := HX.out.mor (HM4.out.trans' hM45)
    have hY := HY.out.mor hM45
    have HM5 := Lib.hid ((HM2.out.trans' HM4.out).trans' hM45)
    have HX5 := Lib.hid hX
    have HY5 := Lib.hid hY
    have HQ5 := Lib.hid hq5
    have HQ35 := Lib.hid (HQ34.out.mor hM45)
    have HQ45 := Lib.hid (HQ4.out.mor hM45)
    clear h5 hq5 hm hM45 hbZ e0 e1 e2 el y0 y1 y2 yl HQ34 HQ4
    obtain ⟨y0, y1, y2, yl⟩ := hY
    obtain ⟨z0, z1, z2, zl⟩ := hZ
    have hn : n4 = n3 := by rw [← HQ45.out.ac.length, ← HQ35.out.ac.length]
    have hmm : m4 = m3 := by rw [← HQ45.out.length, ← HQ35.out.length]
    subst hn hmm
    have HSB := Lib.hid (fun w' (h : Mor w5 w') => show Calls Try.prog 18 #[bv A4 n4 c4 X4 m4 k4 s3, bv A3 n4 c3 X3 m4 k3 s3] w' fun e w'' => e = .returned (.bool true) ∧ Mor w' w'' from samebook_yes A4 A3 n4 c4 c3 X4 X3 m4 k4 k3 s3 (postb b x) w' (HQ45.out.mor h) (HQ35.out.mor h))
    go_wp2_with fail
    refine (HSB.out _ (Mor.refl _).alloc).mono ?_
    rintro e w6 ⟨rfl, hm⟩
    have hO := (C3.new w5 (.string ky) (.int .i64 dy) (.slice A5 n5 c5) 42).mor hm
    obtain ⟨bO, hbO⟩ : ∃ g, g = w5.heap.size := ⟨_, rfl⟩
    rw [← hbO] at hO ⊢
    have hM56 := (Mor.refl w5).alloc.trans' hm
    have hX := HX5.out.mor hM56
    have hY := HY5.out.mor hM56
    have HM6 := Lib.hid (HM5.out.trans' hM56)
    have HQ6 := Lib.hid (HQ5.out.mor hM56)
    have HY6 := Lib.hid hY
    have HQ36 := Lib.hid (HQ35.out.mor hM56)
    clear hm hM56 hbO y0 y1 y2 yl z0 z1 z2 zl
    obtain ⟨e0, e1, e2, el⟩ := hX
    obtain ⟨o0, o1, o2, ol⟩ := hO
    go_wp2_with fail
    refine (HSm.out _ HM6.out _ _ _ HQ6.out).mono ?_
    rintro e w7 ⟨rfl, hm⟩
    have hY := HY6.out.mor hm
    have HM7 := Lib.hid (HM6.out.trans' hm)
    have HQ37 := Lib.hid (HQ36.out.mor hm)
    clear hm e0 e1 e2 el o0 o1 o2 ol
    obtain ⟨y0, y1, y2, yl⟩ := hY
    go_wp2_with fail
    refine (HCk'.out _ _ _ _ _ _ _ HQ37.out).mono ?_
    rintro e w8 ⟨rfl, hm⟩
    have HM8 := Lib.hid (HM7.out.trans' hm)
    clear hm
    go_wp2_with fail
    go_ret
    exact ⟨by simp, HM8.out.below⟩
  · refine (HPn.out _ HM2.out hc).mono ?_
    rintro e w3 ⟨rfl, hm⟩
    have hr : (postc b x != 0) = true := by simpa using hc
    generalize postc b x = r at *
    have HM3 := Lib.hid (HM2.out.trans' hm)
    clear hc hm
    go_wp2_with fail
    go_ret
    exact ⟨by simp, HM3.out.alloc.below⟩

end Go.Proofs.Ytpgefclnplmlkaa.bookTwice
