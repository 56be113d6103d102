/- The walk of talkeep.TrialEqual. -/
import Derived.Test.YtpgefclnplmlkaaTriB
namespace Go.Proofs.Ytpgefclnplmlkaa.trialEqual
open Go.ChangeShapes Go.WideShapes Go.ChangeAt Go.RowKit Go.PlainAid
set_option linter.unusedVariables false

set_option maxRecDepth 100000 in
set_option maxHeartbeats 3200000 in
theorem trialEqual_walk (w : World) (A : Option Addr) (n c : Nat) (X : Option Addr) (m k : Nat) (b : Bok) (hb : Bq w A n c X m k b) (t : Int) (w1 : (Lit.int .i64 t).wf = true) :
    Calls Try.prog 10 #[bv A n c X m k b.shut, .int .i64 t] w fun e w' => e = .returned (.bool true) ∧ Below w.heap.size w w' := by
  have HTy := Lib.hid (fun w' (h : Mor w w') (hl : lookc b t = 0) => trial_ok A n c X m k b t w' (hb.mor h) hl)
  have HTn := Lib.hid (fun w' (h : Mor w w') (hl : lookc b t ≠ 0) => trial_no A n c X m k b t w' (hb.mor h) hl)
  have HPN := Lib.hid (fun (hl : lookc b t = 0) => pos_neg (lookc_zero hl).1 t)
  obtain ⟨o1, o2, o3, _, o4⟩ := one_look
  have HOne := Lib.hid (And.intro o1 (And.intro o2 (And.intro o3 o4)))
  generalize b.shut = sh at *
  clear hb w1 o1 o2 o3 o4
  go_enter Try.func10, Try.ntmps10
  go_wp2_with fail
  refine (plain_any _).mono ?_
  rintro e w2 ⟨g, rfl, hq, hm⟩
  have hP := (Bk.new w 25 #[.slice A n c, .slice X m k, .int .i64 sh]).mor hm
  have hM2 := (Mor.refl w).alloc.trans' hm
  obtain ⟨bP, hbP⟩ : ∃ g, g = w.heap.size := ⟨_, rfl⟩
  rw [← hbP] at hP ⊢
  have HP := Lib.hid (fun w' (h : Mor w2 w') => hP.mor h)
  have HQ := Lib.hid hq
  have HM2 := Lib.hid hM2
  clear hP hM2 hq hm hbP
  go_wp2_with fail
  refine (sale_any ka 5 7 _ (by omega) (by omega)).mono ?_
  rintro e w3 ⟨g2, rfl, hs, hm⟩
  have HQ3 := Lib.hid (HQ.out.mor hm)
  have HS := Lib.hid (lq_two hs two_max two_max)
  have HM23 := Lib.hid hm
  clear hs hm HQ
  go_wp2_with fail
  refine (post_yes _ _ _ _ _ _ plainB (saleE ka 5 7) _ _ _ _ HQ3.out HS.out one_max (plain_post 7 rfl)).mono ?_
  intro e w4 h4
  obtain ⟨A4, n4, c4, X4, m4, k4, rfl, hq4, ho4, hm⟩ := postYes_bq h4
  have HM24 := Lib.hid (HM23.out.trans' hm)
  have HT1 := Lib.hid (fun w' (h : Mor w4 w') => trial_ok A4 n4 c4 X4 m4 k4 oneB 5 w' (hq4.mor h) HOne.out.1)
  rw [HOne.out.2.1, HOne.out.2.2.1, HOne.out.2.2.2] at HT1
  rw [show (postb plainB (saleE ka 5 7)).shut = -1 from HOne.out.2.2.2]
  clear h4 hq4 ho4 hm HQ3 HS
  go_wp2_with fail
  refine (HT1.out _ (Mor.refl _).alloc).mono ?_
  rintro e w5 ⟨rfl, hm⟩
  have HM25 := Lib.hid ((HM24.out.alloc).trans' hm)
  have hP := HP.out _ HM25.out
  have c0 := hP.cell 0
  have c1 := hP.cell 1
  have c2 := hP.cell 2
  have cl := hP.lt
  simp at c0 c1 c2
  clear hP hm HT1
  by_cases hl : lookc b t = 0
  · have HPN' := HPN.out hl
    have HTy' := Lib.hid (fun w' (h : Mor w w') => HTy.out w' h hl)
    obtain ⟨p1, p2⟩ := HPN'
    rw [← p1] at HTy'
    generalize posS b t = P at *
    clear p1 hl HTy HTn HPN
    go_wp2_with fail
    refine (HTy'.out _ (HM2.out.trans' HM25.out)).mono ?_
    rintro e w6 ⟨rfl, hm⟩
    have HM6 := Lib.hid ((HM2.out.trans' HM25.out).trans' hm)
    clear hm
    go_wp2_with fail
    go_ret
    exact ⟨by simp, HM6.out.below⟩
  · have HTn' := Lib.hid (fun w' (h : Mor w w') => HTn.out w' h hl)
    generalize lookc b t = r at *
    have hr : (r != 0) = true := by simpa using hl
    clear hl HTy HTn HPN
    go_wp2_with fail
    refine (HTn'.out _ (HM2.out.trans' HM25.out)).mono ?_
    rintro e w6 ⟨rfl, hm⟩
    have HM6 := Lib.hid ((HM2.out.trans' HM25.out).trans' hm)
    clear hm
    go_wp2_with fail
    go_ret
    exact ⟨by simp, HM6.out.below⟩

end Go.Proofs.Ytpgefclnplmlkaa.trialEqual
