/- The walks of trial.Profit and trial.Sheet. -/
import Derived.Test.YtpgefclnplmlkaaTriC
import Derived.BigQuiet
namespace Go.Proofs.Ytpgefclnplmlkaa
open Go.ChangeShapes Go.WideShapes Go.ChangeAt Go.RowKit Go.PlainAid
set_option linter.unusedVariables false

def profc (b : Bok) (f t : Int) : Int := if lookc b f ≠ 0 then lookc b f else if (t < 0 ∨ 292193 < t) ∨ t < f then 1 else 0
def profv (b : Bok) (f t : Int) : Int := - kS b.en f t 3 b.ac - kS b.en f t 4 b.ac
theorem profc_zero {b : Bok} {f t : Int} (h : profc b f t = 0) : BOk b ∧ 0 ≤ f ∧ f ≤ t ∧ t ≤ 292193 := by
  unfold profc at h
  by_cases h1 : lookc b f = 0
  · rw [if_neg (by simp [h1])] at h
    obtain ⟨h2, h3, h4⟩ := lookc_zero h1
    by_cases h5 : (t < 0 ∨ 292193 < t) ∨ t < f
    · rw [if_pos h5] at h; omega
    · exact ⟨h2, by omega, by omega, by omega⟩
  · rw [if_pos h1] at h; exact absurd h h1
theorem profc_of {b : Bok} {f t : Int} (h1 : BOk b) (h2 : 0 ≤ f) (h3 : f ≤ t) (h4 : t ≤ 292193) : profc b f t = 0 := by
  unfold profc; rw [if_neg (by simp [lookc_of h1 h2 (Int.le_trans h3 h4)]), if_neg (by omega)]
theorem codes_ne {b : Bok} (h : bookc b ≠ 0) (d f t : Int) : lookc b d = bookc b ∧ profc b f t = bookc b := by
  have h1 : ∀ d, lookc b d = bookc b := fun d => by unfold lookc; rw [if_pos h]
  refine ⟨h1 d, ?_⟩
  unfold profc; rw [h1 f, if_pos h]
theorem one_prof : profc oneB 0 5 = 0 ∧ profv oneB 0 5 = 7 ∧ profc oneB 5 5 = 0 ∧ profv oneB 5 5 = 7 ∧ kS oneB.en 0 5 0 oneB.ac = 7 := by decide +kernel
theorem kS_bdb {b : Bok} (h : BOk b) (f t : Int) (q : Nat) : -17280000000000000 ≤ kS b.en f t q b.ac ∧ kS b.en f t q b.ac ≤ 17280000000000000 := by
  have h1 := kS_bd h.enc h.len f t q b.ac
  have h2 := (acc_ok h.ac).1
  omega
/-- PACIOLI: what there is, what is owed, what one is worth and what was earned -/
theorem five_zero {b : Bok} (h : BOk b) (f t : Int) : kS b.en f t 0 b.ac = - kS b.en f t 1 b.ac + - kS b.en f t 2 b.ac + profv b f t := by
  have h1 := kS_sum b.en f t b.ac (fun a ha => ((acc_ok h.ac).2.2.1 a ha).2)
  rw [all_zero h f t] at h1
  unfold profv
  omega
set_option maxRecDepth 100000 in
set_option maxHeartbeats 3200000 in
theorem profit_ok (A : Option Addr) (n c : Nat) (X : Option Addr) (m k : Nat) (b : Bok) (f t : Int) (w : World) (h : Bq w A n c X m k b) (hl : profc b f t = 0) :
    Calls Try.prog 31 #[bv A n c X m k b.shut, .int .i64 f, .int .i64 t] w fun e w' => e = .returned (.tuple #[.int .i64 (profv b f t), .int .i64 0]) ∧ Mor w w' := by
  obtain ⟨hbo, h0, h1, h9⟩ := profc_zero hl
  have HL := Lib.hid (fun w' (hm : Mor w w') => look_any A n c X m k b f w' (h.mor hm))
  rw [lookc_of hbo h0 (Int.le_trans h1 h9)] at HL
  have HD := Lib.hid (fun w => cis_any t w)
  rw [show (decide (0 ≤ t) && decide (t ≤ 292193)) = true by simp; omega] at HD
  have HK := Lib.hid (fun w' (hm : Mor w w') => show Calls Try.prog 56 #[bv A n c X m k b.shut, .int .i64 f, .int .i64 t] w' fun e w'' => e = .returned (.agg #[.int .i64 (kS b.en f t 0 b.ac), .int .i64 (kS b.en f t 1 b.ac), .int .i64 (kS b.en f t 2 b.ac), .int .i64 (kS b.en f t 3 b.ac), .int .i64 (kS b.en f t 4 b.ac)]) ∧ Mor w' w'' from kinds_any A n c X m k b f t w' (h.mor hm) hbo)
  obtain ⟨a1, a2⟩ := kS_bdb hbo f t 3
  obtain ⟨a3, a4⟩ := kS_bdb hbo f t 4
  have hltf : ¬ t < f := by omega
  unfold profv
  generalize kS b.en f t 0 b.ac = k0 at *
  generalize kS b.en f t 1 b.ac = k1 at *
  generalize kS b.en f t 2 b.ac = k2 at *
  generalize kS b.en f t 3 b.ac = k3 at *
  generalize kS b.en f t 4 b.ac = k4 at *
  generalize b.shut = sh at *
  clear h hl hbo
  go_enter Try.func31, Try.ntmps31
  go_wp2_with fail
  refine (HL.out _ (Mor.refl _).alloc).mono ?_
  rintro e w1 ⟨rfl, hm⟩
  obtain ⟨c0, c1, c2, cl⟩ := bk_book _ _ _ _ _ _ _ _ hm
  obtain ⟨bP, hbP⟩ : ∃ g, g = w.heap.size := ⟨_, rfl⟩
  rw [← hbP] at c0 c1 c2 cl ⊢
  have HM1 := Lib.hid ((Mor.refl w).alloc.trans' hm)
  clear hm hbP
  go_wp2_with (go_at_call 38; (with_reducible refine (HD.out _).mono ?_); rintro e w2 ⟨rfl, rfl⟩)
  refine (HK.out _ HM1.out).mono ?_
  rintro e w2 ⟨rfl, hm⟩
  have HM2 := Lib.hid (HM1.out.trans' hm)
  clear hm c0 c1 c2 cl
  go_wp2_with fail
  go_returns
  exact ⟨rfl, HM2.out.alloc⟩
set_option maxRecDepth 100000 in
set_option maxHeartbeats 1600000 in
theorem profit_no (A : Option Addr) (n c : Nat) (X : Option Addr) (m k : Nat) (b : Bok) (f t : Int) (w : World) (h : Bq w A n c X m k b) (hl : profc b f t ≠ 0) :
    Calls Try.prog 31 #[bv A n c X m k b.shut, .int .i64 f, .int .i64 t] w fun e w' => e = .returned (.tuple #[.int .i64 0, .int .i64 (profc b f t)]) ∧ Mor w w' := by
  have HL := Lib.hid (fun w' (hm : Mor w w') => look_any A n c X m k b f w' (h.mor hm))
  have HD := Lib.hid (fun w => cis_any t w)
  have HP := Lib.hid (show profc b f t = if lookc b f ≠ 0 then lookc b f else if (t < 0 ∨ 292193 < t) ∨ t < f then 1 else 0 from rfl)
  generalize profc b f t = pr at *
  generalize lookc b f = r at *
  generalize b.shut = sh at *
  clear h
  by_cases hr : r = 0
  · subst hr
    rw [if_neg (by simp)] at HP
    have hor : (t < 0 ∨ 292193 < t) ∨ t < f := by
      have := HP.out
      split at this
      · assumption
      · exact absurd this hl
    rw [if_pos hor] at HP
    by_cases hd : t < 0 ∨ 292193 < t
    · rw [show (decide (0 ≤ t) && decide (t ≤ 292193)) = false by simp; omega] at HD
      clear hl hor hd
      go_enter Try.func31, Try.ntmps31
      go_wp2_with fail
      refine (HL.out _ (Mor.refl _).alloc).mono ?_
      rintro e w1 ⟨rfl, hm⟩
      have HM1 := Lib.hid ((Mor.refl w).alloc.trans' hm)
      clear hm
      go_wp2_with (go_at_call 38; (with_reducible refine (HD.out _).mono ?_); rintro e w2 ⟨rfl, rfl⟩)
      go_returns
      exact ⟨by rw [HP.out] <;> rfl, HM1.out⟩
    · rw [show (decide (0 ≤ t) && decide (t ≤ 292193)) = true by simp; omega] at HD
      have hltf : t < f := by omega
      clear hl hor hd
      go_enter Try.func31, Try.ntmps31
      go_wp2_with fail
      refine (HL.out _ (Mor.refl _).alloc).mono ?_
      rintro e w1 ⟨rfl, hm⟩
      have HM1 := Lib.hid ((Mor.refl w).alloc.trans' hm)
      clear hm
      go_wp2_with (go_at_call 38; (with_reducible refine (HD.out _).mono ?_); rintro e w2 ⟨rfl, rfl⟩)
      go_returns
      exact ⟨by rw [HP.out] <;> rfl, HM1.out⟩
  · rw [if_pos hr] at HP
    have hr' : (r != 0) = true := by simpa using hr
    clear hl hr
    go_enter Try.func31, Try.ntmps31
    go_wp2_with fail
    refine (HL.out _ (Mor.refl _).alloc).mono ?_
    rintro e w1 ⟨rfl, hm⟩
    have HM1 := Lib.hid ((Mor.refl w).alloc.trans' hm)
    clear hm
    go_wp2_with fail
    go_returns
    exact ⟨by rw [HP.out] <;> rfl, HM1.out⟩
set_option maxRecDepth 100000 in
set_option maxHeartbeats 3200000 in
theorem sheet_ok (A : Option Addr) (n c : Nat) (X : Option Addr) (m k : Nat) (b : Bok) (t : Int) (w : World) (h : Bq w A n c X m k b) (hl : lookc b t = 0) :
    Calls Try.prog 32 #[bv A n c X m k b.shut, .int .i64 t] w fun e w' => e = .returned (.tuple #[.int .i64 (kS b.en 0 t 0 b.ac), .int .i64 (-kS b.en 0 t 1 b.ac), .int .i64 (-kS b.en 0 t 2 b.ac), .int .i64 0]) ∧ Mor w w' := by
  obtain ⟨hbo, h0, h9⟩ := lookc_zero hl
  have HL := Lib.hid (fun w' (hm : Mor w w') => look_any A n c X m k b t w' (h.mor hm))
  rw [hl] at HL
  have HK := Lib.hid (fun w' (hm : Mor w w') => show Calls Try.prog 56 #[bv A n c X m k b.shut, .int .i64 0, .int .i64 t] w' fun e w'' => e = .returned (.agg #[.int .i64 (kS b.en 0 t 0 b.ac), .int .i64 (kS b.en 0 t 1 b.ac), .int .i64 (kS b.en 0 t 2 b.ac), .int .i64 (kS b.en 0 t 3 b.ac), .int .i64 (kS b.en 0 t 4 b.ac)]) ∧ Mor w' w'' from kinds_any A n c X m k b 0 t w' (h.mor hm) hbo)
  obtain ⟨a1, a2⟩ := kS_bdb hbo 0 t 1
  obtain ⟨a3, a4⟩ := kS_bdb hbo 0 t 2
  generalize kS b.en 0 t 0 b.ac = k0 at *
  generalize kS b.en 0 t 1 b.ac = k1 at *
  generalize kS b.en 0 t 2 b.ac = k2 at *
  generalize kS b.en 0 t 3 b.ac = k3 at *
  generalize kS b.en 0 t 4 b.ac = k4 at *
  generalize b.shut = sh at *
  clear h hl hbo
  go_enter Try.func32, Try.ntmps32
  go_wp2_with fail
  refine (HL.out _ (Mor.refl _).alloc).mono ?_
  rintro e w1 ⟨rfl, hm⟩
  obtain ⟨c0, c1, c2, cl⟩ := bk_book _ _ _ _ _ _ _ _ hm
  obtain ⟨bP, hbP⟩ : ∃ g, g = w.heap.size := ⟨_, rfl⟩
  rw [← hbP] at c0 c1 c2 cl ⊢
  have HM1 := Lib.hid ((Mor.refl w).alloc.trans' hm)
  clear hm hbP
  go_wp2_with fail
  refine (HK.out _ HM1.out).mono ?_
  rintro e w2 ⟨rfl, hm⟩
  have HM2 := Lib.hid (HM1.out.trans' hm)
  clear hm c0 c1 c2 cl
  go_wp2_with fail
  have hG := Bk.new w2 91 #[.int .i64 k0, .int .i64 k1, .int .i64 k2, .int .i64 k3, .int .i64 k4]
  have HM3 := Lib.hid (HM2.out.alloc (o := .cells #[.int .i64 k0, .int .i64 k1, .int .i64 k2, .int .i64 k3, .int .i64 k4] 91))
  generalize w2.alloc (.cells #[.int .i64 k0, .int .i64 k1, .int .i64 k2, .int .i64 k3, .int .i64 k4] 91) = w3 at *
  generalize w2.heap.size = g at *
  have g0 := hG.cell 0
  have g1 := hG.cell 1
  have g2 := hG.cell 2
  simp at g0 g1 g2
  have hw1 : IntKind.i64.wrap (-k1) = -k1 := IntWalk.i64_in _ (by omega)
  have hw2 : IntKind.i64.wrap (-k2) = -k2 := IntWalk.i64_in _ (by omega)
  clear hG
  go_quiet (fail)
  go_wp2_with fail
  go_returns
  exact ⟨rfl, HM3.out.drewN⟩
set_option maxHeartbeats 800000 in
theorem sheet_no (A : Option Addr) (n c : Nat) (X : Option Addr) (m k : Nat) (b : Bok) (t : Int) (w : World) (h : Bq w A n c X m k b) (hl : lookc b t ≠ 0) :
    Calls Try.prog 32 #[bv A n c X m k b.shut, .int .i64 t] w fun e w' => e = .returned (.tuple #[.int .i64 0, .int .i64 0, .int .i64 0, .int .i64 (lookc b t)]) ∧ Mor w w' := by
  have HL := Lib.hid (fun w' (hm : Mor w w') => look_any A n c X m k b t w' (h.mor hm))
  generalize lookc b t = r at *
  generalize b.shut = sh at *
  have hr : (r != 0) = true := by simpa using hl
  clear h hl
  go_enter Try.func32, Try.ntmps32
  go_wp2_with fail
  refine (HL.out _ (Mor.refl _).alloc).mono ?_
  rintro e w1 ⟨rfl, hm⟩
  have HM := Lib.hid ((Mor.refl w).alloc.trans' hm)
  clear hm
  go_wp2_with fail
  go_returns
  exact ⟨rfl, HM.out⟩

end Go.Proofs.Ytpgefclnplmlkaa
