/- The walk of talkeep.TrialSheet. -/
import Derived.Test.YtpgefclnplmlkaaTriD
namespace Go.Proofs.Ytpgefclnplmlkaa.trialSheet
open Go.ChangeShapes Go.WideShapes Go.ChangeAt Go.RowKit Go.PlainAid
set_option linter.unusedVariables false

set_option maxRecDepth 100000 in
set_option maxHeartbeats 3200000 in
theorem trialSheet_walk (w : World) (A : Option Addr) (n c : Nat) (X : Option Addr) (m k : Nat) (b : Bok) (hb : Bq w A n c X m k b) (t : Int) (w1 : (Lit.int .i64 t).wf = true) :
    Calls Try.prog 12 #[bv A n c X m k b.shut, .int .i64 t] w fun e w' => e = .returned (.bool true) ∧ Below w.heap.size w w' := by
  have HSy := Lib.hid (fun w' (h : Mor w w') t (hl : lookc b t = 0) => sheet_ok A n c X m k b t w' (hb.mor h) hl)
  have HSn := Lib.hid (fun w' (h : Mor w w') t (hl : lookc b t ≠ 0) => sheet_no A n c X m k b t w' (hb.mor h) hl)
  have HPy := Lib.hid (fun w' (h : Mor w w') t (hl : profc b 0 t = 0) => profit_ok A n c X m k b 0 t w' (hb.mor h) hl)
  have HPn := Lib.hid (fun w' (h : Mor w w') t (hl : profc b 0 t ≠ 0) => profit_no A n c X m k b 0 t w' (hb.mor h) hl)
  obtain ⟨o1, o2, _, _, _⟩ := one_prof
  have HOne := Lib.hid (And.intro o1 (And.intro o2 one_look.2.2.2.2))
  have HD := Lib.hid (fun w => day_any t w)
  have t0 := wi_lo t 292194 (by omega)
  have t1 := wi_hi t 292194 (by omega)
  generalize wi t 292194 = d at *
  generalize b.shut = sh at *
  clear hb w1 o1 o2
  go_enter Try.func12, Try.ntmps12
  go_wp2_with fail
  refine (plain_any _).mono ?_
  rintro e w2 ⟨g, rfl, hq, hm⟩
  have hP := (Bk.new w 25 #[.slice A n c, .slice X m k, .int .i64 sh]).mor hm
  have hM2 := (Mor.refl w).alloc.trans' hm
  obtain ⟨bP, hbP⟩ : ∃ g, g = w.heap.size := ⟨_, rfl⟩
  rw [← hbP] at hP ⊢
  have HP := Lib.hid (fun w' (h : Mor w2 w') => hP.mor h)
  have HQ := Lib.hid hq
  have HM2 := Lib.hid hM2
  clear hP hM2 hq hm hbP
  go_wp2_with fail
  refine (sale_any ka 5 7 _ (by omega) (by omega)).mono ?_
  rintro e w3 ⟨g2, rfl, hs, hm⟩
  have HQ3 := Lib.hid (HQ.out.mor hm)
  have HS := Lib.hid (lq_two hs two_max two_max)
  have HM23 := Lib.hid hm
  clear hs hm HQ
  go_wp2_with fail
  refine (post_yes _ _ _ _ _ _ plainB (saleE ka 5 7) _ _ _ _ HQ3.out HS.out one_max (plain_post 7 rfl)).mono ?_
  intro e w4 h4
  obtain ⟨A4, n4, c4, X4, m4, k4, rfl, hq4, ho4, hm⟩ := postYes_bq h4
  have HM24 := Lib.hid (HM23.out.trans' hm)
  have HT1 := Lib.hid (fun w' (h : Mor w4 w') => profit_ok A4 n4 c4 X4 m4 k4 oneB 0 5 w' (hq4.mor h) HOne.out.1)
  rw [HOne.out.2.1, HOne.out.2.2] at HT1
  rw [show (postb plainB (saleE ka 5 7)).shut = -1 from HOne.out.2.2]
  clear h4 hq4 ho4 hm HQ3 HS
  go_wp2_with fail
  refine (HT1.out _ (Mor.refl _).alloc).mono ?_
  rintro e w5 ⟨rfl, hm⟩
  have HM25 := Lib.hid ((HM24.out.alloc).trans' hm)
  have HM5 := Lib.hid (HM2.out.trans' HM25.out)
  have hP := HP.out _ HM25.out
  have c0 := hP.cell 0
  have c1 := hP.cell 1
  have c2 := hP.cell 2
  have cl := hP.lt
  simp at c0 c1 c2
  clear hP hm HT1
  go_wp2_with fail
  refine (HD.out _).mono ?_
  rintro e w6 ⟨rfl, rfl⟩
  by_cases hc : bookc b = 0
  · have hbo := (bookc_iff b).1 hc
    have HSy' := Lib.hid (fun w' (h : Mor w w') => HSy.out w' h d (lookc_of hbo t0 (by omega)))
    have HPy' := Lib.hid (fun w' (h : Mor w w') => HPy.out w' h d (profc_of hbo (by omega) t0 (by omega)))
    rw [five_zero hbo 0 d] at HSy'
    have b1 := kS_bdb hbo 0 d 1
    have b2 := kS_bdb hbo 0 d 2
    have b3 := kS_bdb hbo 0 d 3
    have b4 := kS_bdb hbo 0 d 4
    have b5 : -34560000000000000 ≤ profv b 0 d ∧ profv b 0 d ≤ 34560000000000000 := by unfold profv; omega
    generalize profv b 0 d = P at *
    have b6 : -17280000000000000 ≤ -kS b.en 0 d 1 b.ac ∧ -kS b.en 0 d 1 b.ac ≤ 17280000000000000 := by omega
    have b7 : -17280000000000000 ≤ -kS b.en 0 d 2 b.ac ∧ -kS b.en 0 d 2 b.ac ≤ 17280000000000000 := by omega
    clear b1 b2 b3 b4
    generalize -kS b.en 0 d 2 b.ac = R at *
    generalize -kS b.en 0 d 1 b.ac = D at *
    clear hc HSy HSn HPy HPn hbo
    go_wp2_with fail
    refine (HSy'.out _ HM5.out).mono ?_
    rintro e w6 ⟨rfl, hm⟩
    have hP := (HP.out _ HM25.out).mor hm
    have c0 := hP.cell 0
    have c1 := hP.cell 1
    have c2 := hP.cell 2
    have cl := hP.lt
    have HM6 := Lib.hid (HM5.out.trans' hm)
    simp at c0 c1 c2
    clear hm hP
    go_wp2_with fail
    refine (HPy'.out _ HM6.out).mono ?_
    rintro e w7 ⟨rfl, hm⟩
    have HM7 := Lib.hid (HM6.out.trans' hm)
    clear hm c0 c1 c2 cl
    go_wp2_with fail
    go_ret
    exact ⟨by simp, HM7.out.below⟩
  · obtain ⟨e1, e2⟩ := codes_ne hc d 0 d
    have HSn' := Lib.hid (fun w' (h : Mor w w') => HSn.out w' h d (by rw [e1]; exact hc))
    have HPn' := Lib.hid (fun w' (h : Mor w w') => HPn.out w' h d (by rw [e2]; exact hc))
    rw [e1] at HSn'
    rw [e2] at HPn'
    generalize bookc b = r at *
    have hr : (r != 0) = true := by simpa using hc
    clear hc HSy HSn HPy HPn e1 e2
    go_wp2_with fail
    refine (HSn'.out _ HM5.out).mono ?_
    rintro e w6 ⟨rfl, hm⟩
    have hP := (HP.out _ HM25.out).mor hm
    have c0 := hP.cell 0
    have c1 := hP.cell 1
    have c2 := hP.cell 2
    have cl := hP.lt
    have HM6 := Lib.hid (HM5.out.trans' hm)
    simp at c0 c1 c2
    clear hm hP
    go_wp2_with fail
    refine (HPn'.out _ HM6.out).mono ?_
    rintro e w7 ⟨rfl, hm⟩
    have HM7 := Lib.hid (HM6.out.trans' hm)
    clear hm c0 c1 c2 cl
    go_wp2_with fail
    go_ret
    exact ⟨by simp, HM7.out.below⟩

end Go.Proofs.Ytpgefclnplmlkaa.trialSheet
