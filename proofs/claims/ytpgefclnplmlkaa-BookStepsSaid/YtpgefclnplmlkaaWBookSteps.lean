/- The walk of talkeep.BookSteps. -/
import Derived.Test.YtpgefclnplmlkaaBookR
namespace Go.Proofs.Ytpgefclnplmlkaa.bookSteps
open Go.ChangeShapes Go.WideShapes Go.ChangeAt Go.RowKit Go.PlainAid
set_option linter.unusedVariables false

set_option maxHeartbeats 400000 in
theorem clo_st (g : Nat) (t : Int) (s' : ByteArray) (d : Int) (A : Option Addr) (n c : Nat) (w : World) (hc : w.cell? ⟨g, 0, none⟩ = some (.int .i64 t)) (hg : g < w.heap.size) (h1 : 0 ≤ t) (h2 : t ≤ 300000) :
    Calls Try.prog 25 #[.agg #[.string s', .int .i64 d, .slice A n c], .pointer (some ⟨g, 0, none⟩)] w fun e w' => e = .returned (.bool (decide (d = t + 1))) ∧ Mor w w' := by
  go_enter Try.func25, Try.ntmps25
  go_wp2
  go_ret
  exact ⟨by simp; rfl, by repeat (first | exact Mor.refl _ | apply Mor.alloc | apply Mor.more | apply Mor.drewN | apply Mor.drew)⟩

set_option maxRecDepth 100000 in
set_option maxHeartbeats 3200000 in
theorem bookSteps_walk (w : World) (A : Option Addr) (n c : Nat) (X : Option Addr) (m k : Nat) (b : Bok) (hb : Bq w A n c X m k b) (s : ByteArray) (ws : s.size ≤ maxLen) (v1 : Int) (w1 : (Lit.int .i64 v1).wf = true) :
    Calls Try.prog 6 #[bv A n c X m k b.shut, .string s, .int .i64 v1] w fun e w' => e = .returned (.bool true) ∧ Below w.heap.size w w' := by
  have t0 := wi_lo v1 292193 (by omega)
  have t1 := wi_hi v1 292193 (by omega)
  have HW := Lib.hid (fun w => within_any v1 292193 w (by omega) (by omega))
  generalize wi v1 292193 = t at *
  have HBa := Lib.hid (fun w' (h : Mor w w') => bal_any A n c X m k b s t w' (hb.mor h))
  have HBb := Lib.hid (fun w' (h : Mor w w') => bal_any A n c X m k b s (t + 1) w' (hb.mor h))
  have hce := balc_days b s (d := t) (d' := t + 1) (by omega) (by omega) (by omega) (by omega)
  rw [← hce] at HBb
  have HAny := Lib.hid (fun (h0 : balc b s t = 0) (hne : balv b s t ≠ balv b s (t + 1)) => show m ≤ 60 ∧ (List.range m).any (fun j => decide ((ne b.en j).day = t + 1)) = true by
    obtain ⟨h1, _, _, _, e1⟩ := balc_zero h0
    obtain ⟨_, _, _, _, e2⟩ := balc_zero (hce ▸ h0)
    refine ⟨by rw [← hb.length]; exact h1.len, ?_⟩
    cases hx : (List.range m).any (fun j => decide ((ne b.en j).day = t + 1))
    · exfalso
      rw [List.any_eq_false] at hx
      rw [e1, e2] at hne
      refine hne (of_step fun e he => ?_).symm
      obtain ⟨i, hi, rfl⟩ := List.mem_iff_getElem.1 he
      have := hx i (List.mem_range.2 (by rw [← hb.length]; exact hi))
      rw [ne_eq _ _ hi] at this
      simpa using this
    · rfl)
  have HEs := Lib.hid (fun w' (h : Mor w w') => hb.es.mor h)
  have HN := Lib.hid hb.length
  generalize balc b s t = cc at *
  generalize balv b s t = x at *
  generalize balv b s (t + 1) = y at *
  generalize b.shut = sh at *
  clear hb w1 hce
  go_enter Try.func6, Try.ntmps6
  go_wp2_with fail
  refine (begun_any _).mono ?_
  rintro e w2 ⟨rfl, hm⟩
  have hP := ((Bk.new w 25 #[.slice A n c, .slice X m k, .int .i64 sh]).alloc (.cells #[.int .i64 v1] 3)).mor hm
  have hT := (Bk.new (w.alloc (.cells #[.slice A n c, .slice X m k, .int .i64 sh] 25)) 3 #[.int .i64 v1]).mor hm
  rw [← sz1] at hT
  have hM2 := ((Mor.refl w).alloc.alloc).trans' hm
  obtain ⟨bP, hbP⟩ : ∃ g, g = w.heap.size := ⟨_, rfl⟩
  rw [← hbP] at hP hT ⊢
  obtain ⟨bT, hbT⟩ : ∃ g, g = bP + 1 := ⟨_, rfl⟩
  rw [← hbT] at hT ⊢
  have hne : bP ≠ bT := by omega
  have hP3 := hP.set_other bT 0 (.int .i64 t) hne
  have hT3 := hT.set_ 0 (.int .i64 t)
  have hM3 : Mor w (w2.setCell ⟨bT, 0, none⟩ (.int .i64 t)) := Mor.of_below (hM2.below.setCell (p := ⟨bT, 0, none⟩) (by show w.heap.size ≤ bT; omega) _)
  obtain ⟨w3, hw3⟩ : ∃ w3, w3 = w2.setCell ⟨bT, 0, none⟩ (.int .i64 t) := ⟨_, rfl⟩
  rw [← hw3] at hP3 hT3 hM3
  have c0 := hP.cell 0
  have c1 := hP.cell 1
  have c2 := hP.cell 2
  have cl := hP.lt
  have e0 := hT.cell 0
  have ef := hT.frozen 0
  have el := hT.lt
  simp at c0 c1 c2 e0
  have HW3 := Lib.hid hw3
  have HM3 := Lib.hid hM3
  have HP3 := Lib.hid (fun w' (h : Mor w3 w') => hP3.mor h)
  have HT3 := Lib.hid (fun w' (h : Mor w3 w') => show Bk w' bT 3 #[.int .i64 t] from by simpa using hT3.mor h)
  clear hP hT hM2 hP3 hT3 hM3 hw3 hm hbP hbT
  go_wp2_with ((go_at_call 23; (with_reducible refine (HW.out _).mono ?_); rintro e w6 ⟨rfl, rfl⟩))
  rw [← HW3.out]
  refine (HBa.out _ HM3.out).mono ?_
  rintro e w4 ⟨rfl, hm⟩
  have HM4 := Lib.hid hm
  have hP := HP3.out _ hm
  have hT := HT3.out _ hm
  clear hm c0 c1 c2 cl e0 ef el
  have c0 := hP.cell 0
  have c1 := hP.cell 1
  have c2 := hP.cell 2
  have cl := hP.lt
  have e0 := hT.cell 0
  have el := hT.lt
  simp at c0 c1 c2 e0
  clear hP hT
  go_wp2_with fail
  refine (HBb.out _ (HM3.out.trans' HM4.out)).mono ?_
  rintro e w5 ⟨rfl, hm⟩
  have HM5 := Lib.hid (HM4.out.trans' hm)
  have hP := HP3.out _ HM5.out
  have hT := HT3.out _ HM5.out
  clear hm c0 c1 c2 cl e0 el
  have c1 := hP.cell 1
  have cl := hP.lt
  have e0 := hT.cell 0
  have el := hT.lt
  simp at c1 e0
  have HT5 := Lib.hid (fun w' (h : Mor w5 w') => hT.mor h)
  clear hP hT
  by_cases hc : cc = 0
  · subst hc
    by_cases hxy : x = y
    · subst hxy
      go_wp2_with fail
      go_ret
      exact ⟨rfl, (HM3.out.trans' HM5.out).below⟩
    · obtain ⟨hm60, hany⟩ := HAny.out rfl hxy
      have hxb : (x == y) = false := by simpa using hxy
      have HCt := Lib.hid (contains_en 25 #[.pointer (some ⟨bT, 0, none⟩)] X m k b.en (fun j => decide ((ne b.en j).day = t + 1)) w5 (fun _ _ => rfl) (HEs.out _ (HM3.out.trans' HM5.out)) (by rw [HN.out]; exact Nat.le_refl _) (by omega) (fun i w' A' n' c' hi hm => by
        have hB := HT5.out _ hm
        exact clo_st bT t _ _ _ _ _ w' (by rw [hB.cell]; rfl) hB.lt (by omega) (by omega)))
      rw [hany] at HCt
      clear hany hxy
      go_wp2_with fail
      refine HCt.out.mono ?_
      rintro e w6 ⟨rfl, hm⟩
      have HM6 := Lib.hid (HM5.out.trans' hm)
      clear hm
      go_wp2_with fail
      go_ret
      exact ⟨rfl, (HM3.out.trans' HM6.out).below⟩
  · have hcb : (cc != 0) = true := by simpa using hc
    go_wp2_with fail
    go_ret
    exact ⟨by simp, (HM3.out.trans' HM5.out).below⟩

end Go.Proofs.Ytpgefclnplmlkaa.bookSteps
