/- The walks of acct.Kind and closing.Close. -/
import Derived.Test.YtdfacejepmolbaaCloA
import Derived.BigRegion
namespace Go.Proofs.Ytdfacejepmolbaa
open Go.ChangeShapes Go.WideShapes Go.ChangeAt Go.RowKit Go.PlainAid
set_option linter.unusedVariables false

set_option maxHeartbeats 1600000 in
theorem kind_no (A : Option Addr) (n c : Nat) (ac : List Ln) (s : ByteArray) (w : World) (hl : Lq w A n c ac) (ha : acc ac = 0) (hf : findA ac s < 0) :
    Calls Try.prog 32 #[.slice A n c, .string s] w fun e w' => e = .returned (.tuple #[.int .i64 0, .int .i64 4]) ∧ Mor w w' := by
  have hn24 : n ≤ 24 := by rw [← hl.length]; exact (acc_ok ha).1
  have HC := Lib.hid (fun w' (h : Mor w w') => acct_any A n c ac w' (hl.si.mor h) hl.length (Nat.le_trans hl.le hl.max) hl.str)
  have HF := Lib.hid (fun w' (h : Mor w w') => find_ac A n c ac s w' (hl.si.mor h) hl.length (by omega))
  rw [ha] at HC
  generalize findA ac s = i at *
  clear hl ha
  go_enter Try.func32, Try.ntmps32
  go_wp2_with fail
  refine (HC.out _ (Mor.refl _)).mono ?_
  rintro e w1 ⟨rfl, hm⟩
  have HM1 := Lib.hid hm
  clear hm
  go_wp2_with fail
  refine (HF.out _ HM1.out).mono ?_
  rintro e w2 ⟨rfl, hm⟩
  have HM2 := Lib.hid (HM1.out.trans' hm)
  clear hm
  go_wp2_with fail
  go_returns
  exact ⟨rfl, HM2.out⟩

set_option maxHeartbeats 1600000 in
theorem kind_yes (A : Option Addr) (n c : Nat) (ac : List Ln) (s : ByteArray) (w : World) (hl : Lq w A n c ac) (ha : acc ac = 0) (i : Nat) (hi : i < ac.length) (hf : findA ac s = i) :
    Calls Try.prog 32 #[.slice A n c, .string s] w fun e w' => e = .returned (.tuple #[.int .i64 (am ac i), .int .i64 0]) ∧ Mor w w' := by
  have hn24 : n ≤ 24 := by rw [← hl.length]; exact (acc_ok ha).1
  have HC := Lib.hid (fun w' (h : Mor w w') => acct_any A n c ac w' (hl.si.mor h) hl.length (Nat.le_trans hl.le hl.max) hl.str)
  have HF := Lib.hid (fun w' (h : Mor w w') => find_ac A n c ac s w' (hl.si.mor h) hl.length (by omega))
  rw [ha] at HC
  rw [hf] at HF
  have hin : (i : Int) < (n : Int) := by rw [hl.length] at hi; omega
  have hi0 : (0 : Int) ≤ (i : Int) := by omega
  have HL := Lib.hid (fun w' (h : Mor w w') => (hl.si.mor h).at_ i hi)
  clear hl ha hf
  go_enter Try.func32, Try.ntmps32
  go_wp2_with fail
  refine (HC.out _ (Mor.refl _)).mono ?_
  rintro e w1 ⟨rfl, hm⟩
  have HM1 := Lib.hid hm
  clear hm
  go_wp2_with fail
  refine (HF.out _ HM1.out).mono ?_
  rintro e w2 ⟨rfl, hm⟩
  have HM2 := Lib.hid (HM1.out.trans' hm)
  obtain ⟨x, hA, hxb, d0, d1⟩ := HL.out _ HM2.out
  subst hA
  clear hm
  go_wp2_with fail
  go_returns
  exact ⟨rfl, HM2.out⟩
theorem own_step {w wr w1 : World} {T : TypeId} {s : Nat} {v : Value} {n : Nat} {xs : List Value} (hown : wr.ownsRow w.heap.size T s v n xs) (hnx : Mor w wr)
    (hgrow : wr.grownBy w1 v.ownBlock) : Mor w w1 := by
  refine Mor.of_below (hnx.below.grown hgrow hnx.below.size ?_)
  intro k hk
  obtain ⟨_, h | ⟨g, cap, cur, rfl, hg, _⟩⟩ := hown
  · rw [h.1] at hk; simp [Value.ownBlock] at hk
  · simp [Value.ownBlock] at hk; omega

set_option maxRecDepth 100000 in
set_option maxHeartbeats 3200000 in
theorem close_1 (A : Option Addr) (n c : Nat) (X : Option Addr) (m k : Nat) (b : Bok) (key : ByteArray) (day : Int) (code : ByteArray) (w : World) (hb : Bq w A n c X m k b) (hc : bookc b ≠ 0) :
    Calls Try.prog 14 #[bv A n c X m k b.shut, .string key, .int .i64 day, .string code] w (PostNo w (bookc b)) := by
  have HCk := Lib.hid (fun w' (hm : Mor w w') => bcheck_any A n c X m k b w' (hb.mor hm))
  generalize bookc b = r at *
  generalize b.shut = sh at *
  have hrb : (r != 0) = true := by simpa using hc
  clear hb hc
  go_enter Try.func14, Try.ntmps14
  go_wp2_with fail
  have hM0 := ((Mor.refl w).alloc (o := .cells #[.slice A n c, .slice X m k, .int .i64 sh] 25)).alloc (o := .cells #[.slice none 0 0, .slice none 0 0, .int .i64 0] 25)
  have hP0 := (Bk.new w 25 #[.slice A n c, .slice X m k, .int .i64 sh]).alloc (.cells #[.slice none 0 0, .slice none 0 0, .int .i64 0] 25)
  have hR0 := Bk.new (w.alloc (.cells #[.slice A n c, .slice X m k, .int .i64 sh] 25)) 25 #[.slice none 0 0, .slice none 0 0, .int .i64 0]
  rw [← sz1] at hR0
  obtain ⟨bP, hgP⟩ : ∃ g, g = w.heap.size := ⟨_, rfl⟩
  rw [← hgP] at hP0 hR0 ⊢
  obtain ⟨bR, hgR⟩ : ∃ g, g = bP + 1 := ⟨_, rfl⟩
  rw [← hgR] at hR0 ⊢
  have hwR : w.heap.size ≤ bR := by omega
  have hPR : bP < bR := by omega
  clear hgP hgR
  generalize (w.alloc (.cells #[.slice A n c, .slice X m k, .int .i64 sh] 25)).alloc (.cells #[.slice none 0 0, .slice none 0 0, .int .i64 0] 25) = w0 at *
  have HP := Lib.hid (fun w' (h : Mor w0 w') => hP0.mor h)
  have HR := Lib.hid (fun w' (h : Mor w0 w') => hR0.mor h)
  have HM0 := Lib.hid hM0
  clear hP0 hR0 hM0
  have hp := HP.out _ (Mor.refl _)
  have c0 := hp.cell 0
  have c1 := hp.cell 1
  have c2 := hp.cell 2
  have cl := hp.lt
  simp at c0 c1 c2
  clear hp
  refine (HCk.out _ HM0.out).mono ?_
  rintro e w1 ⟨rfl, hm⟩
  have HMw := Lib.hid (HM0.out.trans' hm)
  have hr := HR.out _ hm
  have z0 := hr.cell 0
  have z1 := hr.cell 1
  have z2 := hr.cell 2
  have f0 := hr.frozen 0
  have f1 := hr.frozen 1
  have f2 := hr.frozen 2
  have rl := hr.lt
  simp at z0 z1 z2
  have HRb := Lib.hid hr
  clear hr
  clear hm c0 c1 c2 cl
  go_wp2_with fail
  have hb9 := ((HRb.out.set_ 0 (.slice none 0 0)).set_ 1 (.slice none 0 0)).set_ 2 (.int .i64 0)
  simp only [List.setIfInBounds_toArray, List.set_cons_zero, List.set_cons_succ] at hb9
  have hm9 := ((HMw.out.setC (i := 0) (u := .slice none 0 0) hwR).setC (i := 1) (u := .slice none 0 0) hwR).setC (i := 2) (u := .int .i64 0) hwR
  generalize ((w1.setCell ⟨bR, 0, none⟩ (.slice none 0 0)).setCell ⟨bR, 1, none⟩ (.slice none 0 0)).setCell ⟨bR, 2, none⟩ (.int .i64 0) = w9 at *
  have q0 := hb9.cell 0
  have q1 := hb9.cell 1
  have q2 := hb9.cell 2
  simp at q0 q1 q2
  refine bodyPost_ret (by simp [results, Try.results14, go_sem, q0, q1, q2]; try rfl) rfl ?_
  exact ⟨rfl, hm9⟩

set_option maxRecDepth 100000 in
set_option maxHeartbeats 3200000 in
theorem close_2 (A : Option Addr) (n c : Nat) (X : Option Addr) (m k : Nat) (b : Bok) (key : ByteArray) (day : Int) (code : ByteArray) (w : World) (hb : Bq w A n c X m k b) (hc : bookc b = 0) (hd : day < 0 ∨ 292193 < day) :
    Calls Try.prog 14 #[bv A n c X m k b.shut, .string key, .int .i64 day, .string code] w (PostNo w 1) := by
  have HCk := Lib.hid (fun w' (hm : Mor w w') => bcheck_any A n c X m k b w' (hb.mor hm))
  rw [hc] at HCk
  have HD := Lib.hid (fun w => cis_any day w)
  rw [show (decide (0 ≤ day) && decide (day ≤ 292193)) = false by simp; omega] at HD
  generalize b.shut = sh at *
  clear hb hc hd
  go_enter Try.func14, Try.ntmps14
  go_wp2_with fail
  have hM0 := ((Mor.refl w).alloc (o := .cells #[.slice A n c, .slice X m k, .int .i64 sh] 25)).alloc (o := .cells #[.slice none 0 0, .slice none 0 0, .int .i64 0] 25)
  have hP0 := (Bk.new w 25 #[.slice A n c, .slice X m k, .int .i64 sh]).alloc (.cells #[.slice none 0 0, .slice none 0 0, .int .i64 0] 25)
  have hR0 := Bk.new (w.alloc (.cells #[.slice A n c, .slice X m k, .int .i64 sh] 25)) 25 #[.slice none 0 0, .slice none 0 0, .int .i64 0]
  rw [← sz1] at hR0
  obtain ⟨bP, hgP⟩ : ∃ g, g = w.heap.size := ⟨_, rfl⟩
  rw [← hgP] at hP0 hR0 ⊢
  obtain ⟨bR, hgR⟩ : ∃ g, g = bP + 1 := ⟨_, rfl⟩
  rw [← hgR] at hR0 ⊢
  have hwR : w.heap.size ≤ bR := by omega
  have hPR : bP < bR := by omega
  clear hgP hgR
  generalize (w.alloc (.cells #[.slice A n c, .slice X m k, .int .i64 sh] 25)).alloc (.cells #[.slice none 0 0, .slice none 0 0, .int .i64 0] 25) = w0 at *
  have HP := Lib.hid (fun w' (h : Mor w0 w') => hP0.mor h)
  have HR := Lib.hid (fun w' (h : Mor w0 w') => hR0.mor h)
  have HM0 := Lib.hid hM0
  clear hP0 hR0 hM0
  have hp := HP.out _ (Mor.refl _)
  have c0 := hp.cell 0
  have c1 := hp.cell 1
  have c2 := hp.cell 2
  have cl := hp.lt
  simp at c0 c1 c2
  clear hp
  refine (HCk.out _ HM0.out).mono ?_
  rintro e w1 ⟨rfl, hm⟩
  have HMw := Lib.hid (HM0.out.trans' hm)
  have hr := HR.out _ hm
  have z0 := hr.cell 0
  have z1 := hr.cell 1
  have z2 := hr.cell 2
  have f0 := hr.frozen 0
  have f1 := hr.frozen 1
  have f2 := hr.frozen 2
  have rl := hr.lt
  simp at z0 z1 z2
  have HRb := Lib.hid hr
  clear hr
  clear hm c0 c1 c2 cl
  go_wp2_with (go_at_call 29; (with_reducible refine (HD.out _).mono ?_); rintro e w5 ⟨rfl, rfl⟩)
  have hb9 := ((HRb.out.set_ 0 (.slice none 0 0)).set_ 1 (.slice none 0 0)).set_ 2 (.int .i64 0)
  simp only [List.setIfInBounds_toArray, List.set_cons_zero, List.set_cons_succ] at hb9
  have hm9 := ((HMw.out.setC (i := 0) (u := .slice none 0 0) hwR).setC (i := 1) (u := .slice none 0 0) hwR).setC (i := 2) (u := .int .i64 0) hwR
  generalize ((w1.setCell ⟨bR, 0, none⟩ (.slice none 0 0)).setCell ⟨bR, 1, none⟩ (.slice none 0 0)).setCell ⟨bR, 2, none⟩ (.int .i64 0) = w9 at *
  have q0 := hb9.cell 0
  have q1 := hb9.cell 1
  have q2 := hb9.cell 2
  simp at q0 q1 q2
  refine bodyPost_ret (by simp [results, Try.results14, go_sem, q0, q1, q2]; try rfl) rfl ?_
  exact ⟨rfl, hm9⟩

set_option maxRecDepth 100000 in
set_option maxHeartbeats 3200000 in
theorem close_3 (A : Option Addr) (n c : Nat) (X : Option Addr) (m k : Nat) (b : Bok) (key : ByteArray) (day : Int) (code : ByteArray) (w : World) (hb : Bq w A n c X m k b) (hc : bookc b = 0) (hd : ¬ (day < 0 ∨ 292193 < day)) (hf : findA b.ac code < 0) :
    Calls Try.prog 14 #[bv A n c X m k b.shut, .string key, .int .i64 day, .string code] w (PostNo w 4) := by
  have HCk := Lib.hid (fun w' (hm : Mor w w') => bcheck_any A n c X m k b w' (hb.mor hm))
  rw [hc] at HCk
  have HD := Lib.hid (fun w => cis_any day w)
  rw [show (decide (0 ≤ day) && decide (day ≤ 292193)) = true by simp; omega] at HD
  have HK := Lib.hid (fun w' (hm : Mor w w') => kind_no A n c b.ac code w' (hb.ac.mor hm) ((bookc_iff b).1 hc).ac hf)
  generalize b.shut = sh at *
  clear hb hc hd hf
  go_enter Try.func14, Try.ntmps14
  go_wp2_with fail
  have hM0 := ((Mor.refl w).alloc (o := .cells #[.slice A n c, .slice X m k, .int .i64 sh] 25)).alloc (o := .cells #[.slice none 0 0, .slice none 0 0, .int .i64 0] 25)
  have hP0 := (Bk.new w 25 #[.slice A n c, .slice X m k, .int .i64 sh]).alloc (.cells #[.slice none 0 0, .slice none 0 0, .int .i64 0] 25)
  have hR0 := Bk.new (w.alloc (.cells #[.slice A n c, .slice X m k, .int .i64 sh] 25)) 25 #[.slice none 0 0, .slice none 0 0, .int .i64 0]
  rw [← sz1] at hR0
  obtain ⟨bP, hgP⟩ : ∃ g, g = w.heap.size := ⟨_, rfl⟩
  rw [← hgP] at hP0 hR0 ⊢
  obtain ⟨bR, hgR⟩ : ∃ g, g = bP + 1 := ⟨_, rfl⟩
  rw [← hgR] at hR0 ⊢
  have hwR : w.heap.size ≤ bR := by omega
  have hPR : bP < bR := by omega
  clear hgP hgR
  generalize (w.alloc (.cells #[.slice A n c, .slice X m k, .int .i64 sh] 25)).alloc (.cells #[.slice none 0 0, .slice none 0 0, .int .i64 0] 25) = w0 at *
  have HP := Lib.hid (fun w' (h : Mor w0 w') => hP0.mor h)
  have HR := Lib.hid (fun w' (h : Mor w0 w') => hR0.mor h)
  have HM0 := Lib.hid hM0
  clear hP0 hR0 hM0
  have hp := HP.out _ (Mor.refl _)
  have c0 := hp.cell 0
  have c1 := hp.cell 1
  have c2 := hp.cell 2
  have cl := hp.lt
  simp at c0 c1 c2
  clear hp
  refine (HCk.out _ HM0.out).mono ?_
  rintro e w1 ⟨rfl, hm⟩
  have HM1 := Lib.hid (HM0.out.trans' hm)
  have HM01 := Lib.hid hm
  clear c0 c1 c2 cl
  have hp := HP.out _ hm
  have c0 := hp.cell 0
  have c1 := hp.cell 1
  have c2 := hp.cell 2
  have cl := hp.lt
  simp at c0 c1 c2
  clear hp
  clear hm
  go_wp2_with (go_at_call 29; (with_reducible refine (HD.out _).mono ?_); rintro e w5 ⟨rfl, rfl⟩)
  refine (HK.out _ HM1.out).mono ?_
  rintro e w2 ⟨rfl, hm⟩
  have HMw := Lib.hid (HM1.out.trans' hm)
  have hr := HR.out _ (HM01.out.trans' hm)
  have z0 := hr.cell 0
  have z1 := hr.cell 1
  have z2 := hr.cell 2
  have f0 := hr.frozen 0
  have f1 := hr.frozen 1
  have f2 := hr.frozen 2
  have rl := hr.lt
  simp at z0 z1 z2
  have HRb := Lib.hid hr
  clear hr
  clear hm c0 c1 c2 cl
  go_wp2_with fail
  have hb9 := ((HRb.out.set_ 0 (.slice none 0 0)).set_ 1 (.slice none 0 0)).set_ 2 (.int .i64 0)
  simp only [List.setIfInBounds_toArray, List.set_cons_zero, List.set_cons_succ] at hb9
  have hm9 := ((HMw.out.setC (i := 0) (u := .slice none 0 0) hwR).setC (i := 1) (u := .slice none 0 0) hwR).setC (i := 2) (u := .int .i64 0) hwR
  generalize ((w2.setCell ⟨bR, 0, none⟩ (.slice none 0 0)).setCell ⟨bR, 1, none⟩ (.slice none 0 0)).setCell ⟨bR, 2, none⟩ (.int .i64 0) = w9 at *
  have q0 := hb9.cell 0
  have q1 := hb9.cell 1
  have q2 := hb9.cell 2
  simp at q0 q1 q2
  refine bodyPost_ret (by simp [results, Try.results14, go_sem, q0, q1, q2]; try rfl) rfl ?_
  exact ⟨rfl, hm9⟩

set_option maxRecDepth 100000 in
set_option maxHeartbeats 3200000 in
theorem close_4 (A : Option Addr) (n c : Nat) (X : Option Addr) (m k : Nat) (b : Bok) (key : ByteArray) (day : Int) (code : ByteArray) (w : World) (hb : Bq w A n c X m k b) (hc : bookc b = 0) (hd : ¬ (day < 0 ∨ 292193 < day)) (i : Nat) (hi : i < b.ac.length) (hf : findA b.ac code = i) (h2 : am b.ac i ≠ 2) :
    Calls Try.prog 14 #[bv A n c X m k b.shut, .string key, .int .i64 day, .string code] w (PostNo w 3) := by
  have HCk := Lib.hid (fun w' (hm : Mor w w') => bcheck_any A n c X m k b w' (hb.mor hm))
  rw [hc] at HCk
  have HD := Lib.hid (fun w => cis_any day w)
  rw [show (decide (0 ≤ day) && decide (day ≤ 292193)) = true by simp; omega] at HD
  have HK := Lib.hid (fun w' (hm : Mor w w') => kind_yes A n c b.ac code w' (hb.ac.mor hm) ((bookc_iff b).1 hc).ac i hi hf)
  generalize b.shut = sh at *
  have h2b : (am b.ac i != 2) = true := by simpa using h2
  generalize am b.ac i = kd at *
  clear hb hc hd hf h2
  go_enter Try.func14, Try.ntmps14
  go_wp2_with fail
  have hM0 := ((Mor.refl w).alloc (o := .cells #[.slice A n c, .slice X m k, .int .i64 sh] 25)).alloc (o := .cells #[.slice none 0 0, .slice none 0 0, .int .i64 0] 25)
  have hP0 := (Bk.new w 25 #[.slice A n c, .slice X m k, .int .i64 sh]).alloc (.cells #[.slice none 0 0, .slice none 0 0, .int .i64 0] 25)
  have hR0 := Bk.new (w.alloc (.cells #[.slice A n c, .slice X m k, .int .i64 sh] 25)) 25 #[.slice none 0 0, .slice none 0 0, .int .i64 0]
  rw [← sz1] at hR0
  obtain ⟨bP, hgP⟩ : ∃ g, g = w.heap.size := ⟨_, rfl⟩
  rw [← hgP] at hP0 hR0 ⊢
  obtain ⟨bR, hgR⟩ : ∃ g, g = bP + 1 := ⟨_, rfl⟩
  rw [← hgR] at hR0 ⊢
  have hwR : w.heap.size ≤ bR := by omega
  have hPR : bP < bR := by omega
  clear hgP hgR
  generalize (w.alloc (.cells #[.slice A n c, .slice X m k, .int .i64 sh] 25)).alloc (.cells #[.slice none 0 0, .slice none 0 0, .int .i64 0] 25) = w0 at *
  have HP := Lib.hid (fun w' (h : Mor w0 w') => hP0.mor h)
  have HR := Lib.hid (fun w' (h : Mor w0 w') => hR0.mor h)
  have HM0 := Lib.hid hM0
  clear hP0 hR0 hM0
  have hp := HP.out _ (Mor.refl _)
  have c0 := hp.cell 0
  have c1 := hp.cell 1
  have c2 := hp.cell 2
  have cl := hp.lt
  simp at c0 c1 c2
  clear hp
  refine (HCk.out _ HM0.out).mono ?_
  rintro e w1 ⟨rfl, hm⟩
  have HM1 := Lib.hid (HM0.out.trans' hm)
  have HM01 := Lib.hid hm
  clear c0 c1 c2 cl
  have hp := HP.out _ hm
  have c0 := hp.cell 0
  have c1 := hp.cell 1
  have c2 := hp.cell 2
  have cl := hp.lt
  simp at c0 c1 c2
  clear hp
  clear hm
  go_wp2_with (go_at_call 29; (with_reducible refine (HD.out _).mono ?_); rintro e w5 ⟨rfl, rfl⟩)
  refine (HK.out _ HM1.out).mono ?_
  rintro e w2 ⟨rfl, hm⟩
  have HMw := Lib.hid (HM1.out.trans' hm)
  have hr := HR.out _ (HM01.out.trans' hm)
  have z0 := hr.cell 0
  have z1 := hr.cell 1
  have z2 := hr.cell 2
  have f0 := hr.frozen 0
  have f1 := hr.frozen 1
  have f2 := hr.frozen 2
  have rl := hr.lt
  simp at z0 z1 z2
  have HRb := Lib.hid hr
  clear hr
  clear hm c0 c1 c2 cl
  go_wp2_with fail
  have hb9 := ((HRb.out.set_ 0 (.slice none 0 0)).set_ 1 (.slice none 0 0)).set_ 2 (.int .i64 0)
  simp only [List.setIfInBounds_toArray, List.set_cons_zero, List.set_cons_succ] at hb9
  have hm9 := ((HMw.out.setC (i := 0) (u := .slice none 0 0) hwR).setC (i := 1) (u := .slice none 0 0) hwR).setC (i := 2) (u := .int .i64 0) hwR
  generalize ((w2.setCell ⟨bR, 0, none⟩ (.slice none 0 0)).setCell ⟨bR, 1, none⟩ (.slice none 0 0)).setCell ⟨bR, 2, none⟩ (.int .i64 0) = w9 at *
  have q0 := hb9.cell 0
  have q1 := hb9.cell 1
  have q2 := hb9.cell 2
  simp at q0 q1 q2
  refine bodyPost_ret (by simp [results, Try.results14, go_sem, q0, q1, q2]; try rfl) rfl ?_
  exact ⟨rfl, hm9⟩

set_option maxRecDepth 100000 in
set_option maxHeartbeats 3200000 in
theorem close_go (A : Option Addr) (n c : Nat) (X : Option Addr) (m k : Nat) (b : Bok) (key : ByteArray) (day : Int) (code : ByteArray) (w : World) (hb : Bq w A n c X m k b) (hks : key.size ≤ maxLen) (hcs : code.size ≤ maxLen) (hc : bookc b = 0) (hd : ¬ (day < 0 ∨ 292193 < day)) (i : Nat) (hi : i < b.ac.length) (hf : findA b.ac code = i) (h2 : am b.ac i = 2) (hr5 : closec b key day code = if cll b day b.ac = [] then 4 else if postc b (closeE b key day code) ≠ 0 then postc b (closeE b key day code) else shutc (postb b (closeE b key day code)) day) :
    Calls Try.prog 14 #[bv A n c X m k b.shut, .string key, .int .i64 day, .string code] w (PostAny w (closeb b key day code) (closec b key day code)) := by
  have HCk := Lib.hid (fun w' (hm : Mor w w') => bcheck_any A n c X m k b w' (hb.mor hm))
  rw [hc] at HCk
  have HD := Lib.hid (fun w => cis_any day w)
  rw [show (decide (0 ≤ day) && decide (day ≤ 292193)) = true by simp; omega] at HD
  have HK := Lib.hid (fun w' (hm : Mor w w') => kind_yes A n c b.ac code w' (hb.ac.mor hm) ((bookc_iff b).1 hc).ac i hi hf)
  rw [h2] at HK
  have hbo := (bookc_iff b).1 hc
  have hn24 : n ≤ 24 := by rw [← hb.ac.length]; exact (acc_ok hbo.ac).1
  obtain ⟨i0, hi0, hz0, hz1, hz2⟩ := info_parts info_line
  have HOf := Lib.hid (fun w' (hm : Mor w w') s => of_any A n c X m k b.shut b.en s 0 day w' (hb.es.mor hm) hb.length (by rw [← hb.length]; exact hbo.len) hbo.enc)
  have HAc := Lib.hid (fun w' (hm : Mor w w') => hb.ac.mor hm)
  have HN := Lib.hid hb.ac.length
  have HBd := Lib.hid (fun j (hj : j ≤ n) => show -720000000000000 * (j : Int) ≤ cls b day (b.ac.take j) ∧ cls b day (b.ac.take j) ≤ 720000000000000 * j by
    have := sm_bd (f := clg b day) (M := 720000000000000) (xs := b.ac.take j) (fun a _ => by
      unfold clg
      have := ofS_bd hbo.enc hbo.len a.1 0 day
      split <;> omega)
    rw [show (b.ac.take j).length = j by rw [List.length_take, hb.ac.length]; omega] at this
    unfold cls
    omega)
  have HOb := Lib.hid (fun s => ofS_bd hbo.enc hbo.len s 0 day)
  have HTl := Lib.hid (fun j (hj : j < n) => show cll b day (b.ac.take (j + 1)) = cll b day (b.ac.take j) ++ (if ofS b.en (cd b.ac j) 0 day ≠ 0 ∧ (am b.ac j = 3 ∨ am b.ac j = 4) then [(cd b.ac j, -ofS b.en (cd b.ac j) 0 day)] else []) by
    have hj' : j < b.ac.length := by rw [hb.ac.length]; exact hj
    rw [cll_take b day b.ac j hj', (cd_at b.ac j hj').1, (cd_at b.ac j hj').2]; rfl)
  have HTs := Lib.hid (fun j (hj : j < n) => show cls b day (b.ac.take (j + 1)) = cls b day (b.ac.take j) + (if am b.ac j = 3 ∨ am b.ac j = 4 then ofS b.en (cd b.ac j) 0 day else 0) by
    have hj' : j < b.ac.length := by rw [hb.ac.length]; exact hj
    rw [cls_take b day b.ac j hj', (cd_at b.ac j hj').1, (cd_at b.ac j hj').2]; rfl)
  have HLl := Lib.hid (fun j (hj : j ≤ n) => show (cll b day (b.ac.take j)).length ≤ j from Nat.le_trans (cll_len b day _) (by rw [List.length_take]; omega))
  have HStr := Lib.hid (fun l (h : l ∈ cll b day b.ac) => show l.1.size ≤ maxLen by
    obtain ⟨a, ha, _, rfl⟩ := cll_mem h
    obtain ⟨j, hj, rfl⟩ := List.mem_iff_getElem.1 ha
    have := hb.ac.str j (by rw [← hb.ac.length]; exact hj)
    rw [(cd_at b.ac j hj).1] at this
    exact this)
  have HAll := Lib.hid (show b.ac.take n = b.ac from List.take_of_length_le (by rw [hb.ac.length]; exact Nat.le_refl _))
  have HPo := Lib.hid (fun w' (hm : Mor w w') Y p q (hl : Lq w' Y p q (closeE b key day code).ls) (hc0 : postc b (closeE b key day code) = 0) => show Calls Try.prog 7 #[bv A n c X m k b.shut, .agg #[.string key, .int .i64 day, .slice Y p q]] w' (PostYes w' (postb b (closeE b key day code))) from post_yes A n c X m k b (closeE b key day code) Y p q w' (hb.mor hm) hl hks hc0)
  have HPn := Lib.hid (fun w' (hm : Mor w w') Y p q (hl : Lq w' Y p q (closeE b key day code).ls) (hc0 : postc b (closeE b key day code) ≠ 0) => show Calls Try.prog 7 #[bv A n c X m k b.shut, .agg #[.string key, .int .i64 day, .slice Y p q]] w' (PostNo w' (postc b (closeE b key day code))) from post_no A n c X m k b (closeE b key day code) Y p q w' (hb.mor hm) hl hks hc0)
  have HSs := Lib.hid (show (postb b (closeE b key day code)).shut = b.shut from (post_ac b (closeE b key day code)).2)
  have HSy := Lib.hid (fun w' A n c X m k (hq : Bq w' A n c X m k (postb b (closeE b key day code))) (h0 : shutc (postb b (closeE b key day code)) day = 0) => show Calls Try.prog 33 #[bv A n c X m k b.shut, .int .i64 day] w' (PostYes w' (shutb (postb b (closeE b key day code)) day)) by
    obtain ⟨g1, g2, g3, g4⟩ := shutc_zero h0
    have h := shut_yes A n c X m k _ day w' hq g1 g2 g3 g4
    rw [HSs.out] at h
    exact h)
  have HSn := Lib.hid (fun w' A n c X m k (hq : Bq w' A n c X m k (postb b (closeE b key day code))) (h0 : shutc (postb b (closeE b key day code)) day ≠ 0) => show Calls Try.prog 33 #[bv A n c X m k b.shut, .int .i64 day] w' (PostNo w' (shutc (postb b (closeE b key day code)) day)) by
    have h := shut_no A n c X m k _ day w' hq h0
    rw [HSs.out] at h
    exact h)
  have HXl := Lib.hid (show (closeE b key day code).ls = cll b day b.ac ++ (if cls b day b.ac ≠ 0 then [(code, cls b day b.ac)] else []) from rfl)
  have HR5 := Lib.hid hr5
  have HCs := Lib.hid hcs
  generalize hsh : b.shut = sh at *
  clear hb hc hf h2 hr5 hbo hsh hi hcs hks
  go_enter Try.func14, Try.ntmps14
  go_wp2_with fail
  have hM0 := ((Mor.refl w).alloc (o := .cells #[.slice A n c, .slice X m k, .int .i64 sh] 25)).alloc (o := .cells #[.slice none 0 0, .slice none 0 0, .int .i64 0] 25)
  have hP0 := (Bk.new w 25 #[.slice A n c, .slice X m k, .int .i64 sh]).alloc (.cells #[.slice none 0 0, .slice none 0 0, .int .i64 0] 25)
  have hR0 := Bk.new (w.alloc (.cells #[.slice A n c, .slice X m k, .int .i64 sh] 25)) 25 #[.slice none 0 0, .slice none 0 0, .int .i64 0]
  rw [← sz1] at hR0
  obtain ⟨bP, hgP⟩ : ∃ g, g = w.heap.size := ⟨_, rfl⟩
  rw [← hgP] at hP0 hR0 ⊢
  obtain ⟨bR, hgR⟩ : ∃ g, g = bP + 1 := ⟨_, rfl⟩
  rw [← hgR] at hR0 ⊢
  have hwR : w.heap.size ≤ bR := by omega
  have hPR : bP < bR := by omega
  clear hgP hgR
  generalize (w.alloc (.cells #[.slice A n c, .slice X m k, .int .i64 sh] 25)).alloc (.cells #[.slice none 0 0, .slice none 0 0, .int .i64 0] 25) = w0 at *
  have HP := Lib.hid (fun w' (h : Mor w0 w') => hP0.mor h)
  have HR := Lib.hid (fun w' (h : Mor w0 w') => hR0.mor h)
  have HM0 := Lib.hid hM0
  clear hP0 hR0 hM0
  have hp := HP.out _ (Mor.refl _)
  have c0 := hp.cell 0
  have c1 := hp.cell 1
  have c2 := hp.cell 2
  have cl := hp.lt
  simp at c0 c1 c2
  clear hp
  refine (HCk.out _ HM0.out).mono ?_
  rintro e w1 ⟨rfl, hm⟩
  have HM1 := Lib.hid (HM0.out.trans' hm)
  have HM01 := Lib.hid hm
  clear c0 c1 c2 cl
  have hp := HP.out _ hm
  have c0 := hp.cell 0
  have c1 := hp.cell 1
  have c2 := hp.cell 2
  have cl := hp.lt
  simp at c0 c1 c2
  clear hp
  clear hm
  go_wp2_with (go_at_call 29; (with_reducible refine (HD.out _).mono ?_); rintro e w5 ⟨rfl, rfl⟩)
  refine (HK.out _ HM1.out).mono ?_
  rintro e w2 ⟨rfl, hm⟩
  have HM2 := Lib.hid (HM1.out.trans' hm)
  have HM02 := Lib.hid (HM01.out.trans' hm)
  clear c0 c1 c2 cl
  have hp := HP.out _ HM02.out
  have c0 := hp.cell 0
  have c1 := hp.cell 1
  have c2 := hp.cell 2
  have cl := hp.lt
  simp at c0 c1 c2
  clear hp
  clear hm HCk HD HK
  go_wp2_with fail
  have hE0 := Bk.new w2 32 #[.string key, .int .i64 day, .slice none 0 0]
  have hM2a := (Mor.refl w2).alloc (o := .cells #[.string key, .int .i64 day, .slice none 0 0] 32)
  obtain ⟨bE, hgE⟩ : ∃ g, g = w2.heap.size := ⟨_, rfl⟩
  rw [← hgE] at hE0 ⊢
  have HgE := Lib.hid hgE
  have hPE : bP < bE := by rw [hgE]; exact cl
  have hRE : bR < bE := by rw [hgE]; exact (HR.out _ HM02.out).lt
  clear hgE c0 c1 c2 cl
  generalize w2.alloc (.cells #[.string key, .int .i64 day, .slice none 0 0] 32) = w3 at *
  go_loopw [14, 49] (fun v i wr => ∃ j : Nat, j ≤ n ∧ i = .int .i64 j ∧ v = .int .i64 (cls b day (b.ac.take j)) ∧ Hid (∃ vL, Bk wr bE 32 #[.string key, .int .i64 day, vL] ∧ wr.ownsRow (bE + 1) 41 2 vL (cll b day (b.ac.take j)).length (flat pc (cll b day (b.ac.take j))) ∧ Mor w2 wr ∧ bE + 1 ≤ wr.heap.size)) (fun _ i _ => n - (intOf i).toNat)
  case atStart => exact ⟨0, Nat.zero_le _, rfl, by simp; rfl, Lib.hid ⟨_, hE0, by rw [List.take_zero]; exact World.ownsRow_nil _ _ _ _, hM2a, hE0.lt⟩⟩
  case round =>
    clear hE0 hM2a
    obtain ⟨j, hj, rfl, rfl, HQ⟩ := hrel
    obtain ⟨vL, hE, hrow, hm2r, hszr⟩ := HQ.out
    have hl24 := HLl.out j hj
    obtain ⟨AL, cL, rfl, hcL, _, _⟩ := own_shape hrow
    by_cases hlt : j < n
    · have hji : (j : Int) < (n : Int) := by omega
      have hj0 : (0 : Int) ≤ (j : Int) := by omega
      obtain ⟨x, hA, hxb, d0, d1⟩ := (HAc.out _ (HM2.out.trans' hm2r)).si.at_ j (by rw [HN.out]; exact hlt)
      subst hA
      have HOj := Lib.hid (fun w' (hm : Mor wr w') => HOf.out w' ((HM2.out.trans' hm2r).trans' hm) (cd b.ac j))
      have HTlj := Lib.hid (HTl.out j hlt)
      have HTsj := Lib.hid (HTs.out j hlt)
      obtain ⟨o1, o2⟩ := HOb.out (cd b.ac j)
      obtain ⟨q1, q2⟩ := HBd.out j hj
      generalize cls b day (b.ac.take j) = S at *
      generalize cll b day (b.ac.take j) = ls at *
      generalize ofS b.en (cd b.ac j) 0 day = o at *
      generalize cd b.ac j = s at *
      generalize am b.ac j = a at *
      have HE := Lib.hid hE
      have HRow := Lib.hid hrow
      have HMr := Lib.hid hm2r
      have hp := HP.out _ (HM02.out.trans' hm2r)
      have c0 := hp.cell 0
      have c1 := hp.cell 1
      have c2 := hp.cell 2
      have cl := hp.lt
      simp at c0 c1 c2
      clear hE hrow hm2r HQ hp
      go_wp2_with fail
      refine (HOj.out _ (Mor.refl _).alloc).mono ?_
      rintro e w4 ⟨rfl, hm4⟩
      have hbA := (Bk.new wr 46 #[.string s, .int .i64 a]).mor hm4
      have hE4 := HE.out.mor ((Mor.refl wr).alloc (o := .cells #[.string s, .int .i64 a] 46) |>.trans' hm4)
      have HM4 := Lib.hid ((Mor.refl wr).alloc (o := .cells #[.string s, .int .i64 a] 46) |>.trans' hm4)
      have a0 := hbA.cell 0
      have a1 := hbA.cell 1
      have al := hbA.lt
      have e2 := hE4.cell 2
      have ef := hE4.frozen 2
      have el := hE4.lt
      simp at a0 a1 e2
      have HE4 := Lib.hid hE4
      clear hbA hE4 hm4 c0 c1 c2 cl d0 d1 HOj
      by_cases ho : o = 0
      · subst ho
        go_wp2_with fail
        go_roundw
        case rel => exact ⟨j + 1, by omega, by go_num, by rw [HTsj.out]; simp, Lib.hid ⟨.slice AL ls.length cL, HE4.out, by rw [HTlj.out]; simpa using own_mor HRow.out HM4.out, HMr.out.trans' HM4.out, Nat.le_trans hszr HM4.out.below.size⟩⟩
        case measure => simp [intOf]; omega
      · have hob : (o != 0) = true := by simpa using ho
        by_cases ha : a = 3 ∨ a = 4
        · rw [if_pos ha] at HTsj
          rw [if_pos ⟨ho, ha⟩] at HTlj
          rcases ha with ha | ha
          · subst ha
            go_wp2_with (at_builtin; refine wpList_append_own _ rfl _ _ 30 rfl (bE + 1) 41 i0 (.agg #[.string { data := #[] }, .int .i64 0]) 2 24 Try.underlying30 hi0 hz0 hz1 hz2 rfl (by decide) _ _ _ rfl ((own_mor HRow.out HM4.out).alloc (.cells #[.string s, .int .i64 (-o)] 41)) ⟨w4.heap.size, 0, none⟩ 1 1 [.string s, .int .i64 (-o)] rfl rfl ?_ ?_ ?_ ?_ ?_ ?_)
            case refine_6 =>
              intro v' w5 hown' hgrow _
              obtain ⟨A5, c5, rfl, _, _, _⟩ := own_shape hown'
              have hm5 : Mor w2 w5 := own_step (own_base ((own_mor HRow.out HM4.out).alloc (.cells #[.string s, .int .i64 (-o)] 41)) (by have := HgE.out; omega)) ((HMr.out.trans' HM4.out).alloc) hgrow
              have hE5 := Bk.growT (HE4.out.alloc (.cells #[.string s, .int .i64 (-o)] 41)) ((own_mor HRow.out HM4.out).alloc (.cells #[.string s, .int .i64 (-o)] 41)) hgrow (by decide)
              have e2 := hE5.cell 2
              have ef := hE5.frozen 2
              have el := hE5.lt
              simp at e2
              have HE5 := Lib.hid hE5
              have HO5 := Lib.hid hown'
              have HM5 := Lib.hid hm5
              have hs5 : bE + 1 ≤ w5.heap.size := el
              clear hown' hgrow hm5 hE5 a0 a1 al
              go_wp2_with fail
              go_roundw
              case rel => exact ⟨j + 1, by omega, by go_num, by rw [HTsj.out], Lib.hid ⟨.slice A5 (ls.length + 1) c5, by have := HE5.out.set_ 2 (.slice A5 (ls.length + 1) c5); simpa using this, own_set (by rw [HTlj.out, flat_snoc, List.length_append]; simpa [pc] using HO5.out) (by omega), HM5.out.setC (by have := HgE.out; omega), by simpa [World.setCell] using hs5⟩⟩
              case measure => simp [intOf]; omega
            all_goals try (first | (exact rfl) | (intro u hu; simp at hu; rcases hu with rfl | rfl <;> rfl) | (unfold maxLen; omega) | omega | (simp [go_sem]; omega) | (intro j u hj; match j, hj with | 0, hj => simp at hj; subst hj; simp [Addr.add] | 1, hj => simp at hj; subst hj; simp [Addr.add]))
          · subst ha
            go_wp2_with (at_builtin; refine wpList_append_own _ rfl _ _ 30 rfl (bE + 1) 41 i0 (.agg #[.string { data := #[] }, .int .i64 0]) 2 24 Try.underlying30 hi0 hz0 hz1 hz2 rfl (by decide) _ _ _ rfl ((own_mor HRow.out HM4.out).alloc (.cells #[.string s, .int .i64 (-o)] 41)) ⟨w4.heap.size, 0, none⟩ 1 1 [.string s, .int .i64 (-o)] rfl rfl ?_ ?_ ?_ ?_ ?_ ?_)
            case refine_6 =>
              intro v' w5 hown' hgrow _
              obtain ⟨A5, c5, rfl, _, _, _⟩ := own_shape hown'
              have hm5 : Mor w2 w5 := own_step (own_base ((own_mor HRow.out HM4.out).alloc (.cells #[.string s, .int .i64 (-o)] 41)) (by have := HgE.out; omega)) ((HMr.out.trans' HM4.out).alloc) hgrow
              have hE5 := Bk.growT (HE4.out.alloc (.cells #[.string s, .int .i64 (-o)] 41)) ((own_mor HRow.out HM4.out).alloc (.cells #[.string s, .int .i64 (-o)] 41)) hgrow (by decide)
              have e2 := hE5.cell 2
              have ef := hE5.frozen 2
              have el := hE5.lt
              simp at e2
              have HE5 := Lib.hid hE5
              have HO5 := Lib.hid hown'
              have HM5 := Lib.hid hm5
              have hs5 : bE + 1 ≤ w5.heap.size := el
              clear hown' hgrow hm5 hE5 a0 a1 al
              go_wp2_with fail
              go_roundw
              case rel => exact ⟨j + 1, by omega, by go_num, by rw [HTsj.out], Lib.hid ⟨.slice A5 (ls.length + 1) c5, by have := HE5.out.set_ 2 (.slice A5 (ls.length + 1) c5); simpa using this, own_set (by rw [HTlj.out, flat_snoc, List.length_append]; simpa [pc] using HO5.out) (by omega), HM5.out.setC (by have := HgE.out; omega), by simpa [World.setCell] using hs5⟩⟩
              case measure => simp [intOf]; omega
            all_goals try (first | (exact rfl) | (intro u hu; simp at hu; rcases hu with rfl | rfl <;> rfl) | (unfold maxLen; omega) | omega | (simp [go_sem]; omega) | (intro j u hj; match j, hj with | 0, hj => simp at hj; subst hj; simp [Addr.add] | 1, hj => simp at hj; subst hj; simp [Addr.add]))
        · rw [if_neg ha] at HTsj
          rw [if_neg (fun h => ha h.2)] at HTlj
          have ha3 : (a == 3) = false := beq_eq_false_iff_ne.2 (by omega)
          have ha4 : (a == 4) = false := beq_eq_false_iff_ne.2 (by omega)
          go_wp2_with fail
          go_roundw
          case rel => exact ⟨j + 1, by omega, by go_num, by rw [HTsj.out]; simp, Lib.hid ⟨.slice AL ls.length cL, HE4.out, by rw [HTlj.out]; simpa using own_mor HRow.out HM4.out, HMr.out.trans' HM4.out, Nat.le_trans hszr HM4.out.below.size⟩⟩
          case measure => simp [intOf]; omega
    · obtain rfl : j = n := by omega
      rw [HAll.out] at hrow hl24 hE hcL ⊢
      have hm0r := HM02.out.trans' hm2r
      have hE0 := hE.cell 0
      have hE1 := hE.cell 1
      have hE2 := hE.cell 2
      have ef := hE.frozen 2
      have el := hE.lt
      obtain ⟨q1, q2⟩ := HBd.out j hj
      rw [HAll.out] at q1 q2
      simp at hE0 hE1 hE2
      have e0 := hE0
      have e1 := hE1
      have e2 := hE2
      clear hE0 hE1 hE2
      have HRow := Lib.hid hrow
      have HM0r := Lib.hid hm0r
      have HM2r := Lib.hid hm2r
      have HEr := Lib.hid hE
      clear hrow hm0r hm2r hE HQ HOf HTl HTs HOb HLl HBd
      generalize hls : cll b day b.ac = ls at *
      generalize hS : cls b day b.ac = S at *
      clear hls hS
      by_cases hne : ls = []
      · subst hne
        have hcl : closec b key day code = 4 := by rw [HR5.out, if_pos rfl]
        have hcb : closeb b key day code = zeroB := by unfold closeb; rw [if_neg (by rw [hcl]; omega)]
        have HCL := Lib.hid (And.intro hcl hcb)
        clear hcl hcb
        have HMw := Lib.hid (HM0.out.trans' HM0r.out)
        have hr := HR.out _ HM0r.out
        have z0 := hr.cell 0
        have z1 := hr.cell 1
        have z2 := hr.cell 2
        have f0 := hr.frozen 0
        have f1 := hr.frozen 1
        have f2 := hr.frozen 2
        have rl := hr.lt
        simp at z0 z1 z2
        have HRb := Lib.hid hr
        clear hr
        go_wp2_with fail
        have hb9 := ((HRb.out.set_ 0 (.slice none 0 0)).set_ 1 (.slice none 0 0)).set_ 2 (.int .i64 0)
        simp only [List.setIfInBounds_toArray, List.set_cons_zero, List.set_cons_succ] at hb9
        have hm9 := ((HMw.out.setC (i := 0) (u := .slice none 0 0) hwR).setC (i := 1) (u := .slice none 0 0) hwR).setC (i := 2) (u := .int .i64 0) hwR
        generalize ((wr.setCell ⟨bR, 0, none⟩ (.slice none 0 0)).setCell ⟨bR, 1, none⟩ (.slice none 0 0)).setCell ⟨bR, 2, none⟩ (.int .i64 0) = w9 at *
        have q0 := hb9.cell 0
        have q1 := hb9.cell 1
        have q2 := hb9.cell 2
        simp at q0 q1 q2
        refine bodyPost_ret (by simp [results, Try.results14, go_sem, q0, q1, q2]; try rfl) rfl ?_
        rw [HCL.out.1, HCL.out.2]
        exact any_no ⟨rfl, hm9⟩
      · have hl0 : ls.length ≠ 0 := fun h => hne (List.eq_nil_of_length_eq_zero h)
        have hlb : ((ls.length : Int) == 0) = false := beq_eq_false_iff_ne.2 (by omega)
        have hlz : ¬ (ls.length : Int) = 0 := by omega
        by_cases hS0 : S = 0
        · subst hS0
          have HLq := Lib.hid (show Lq wr AL ls.length cL (closeE b key day code).ls by
            obtain ⟨A9, c9, e9, hq9⟩ := own_lq HRow.out rfl (fun i hi => by
              rw [(cd_at ls i hi).1]; exact HStr.out _ (List.getElem_mem hi))
            injection e9 with g1 _ g3
            subst g1 g3
            rw [HXl.out, if_neg (by simp), List.append_nil]
            exact hq9)
          have HW0 := HM0r
          have hp := HP.out _ HM0r.out
          have c0 := hp.cell 0
          have c1 := hp.cell 1
          have c2 := hp.cell 2
          have cl := hp.lt
          simp at c0 c1 c2
          clear hp
          go_wp2_with fail
          by_cases hpc : postc b (closeE b key day code) = 0
          · refine (HPo.out _ (HM0.out.trans' HW0.out) _ _ _ HLq.out hpc).mono ?_
            intro e w6 h6
            obtain ⟨A6, n6, c6, X6, m6, k6, rfl, hq6, -, hm6⟩ := postYes_bq h6
            rw [HSs.out]
            have HM6 := Lib.hid (hm6.alloc (o := .cells #[.slice A6 n6 c6, .slice X6 m6 k6, .int .i64 sh] 25))
            have HQ6 := Lib.hid (hq6.mor ((Mor.refl w6).alloc (o := .cells #[.slice A6 n6 c6, .slice X6 m6 k6, .int .i64 sh] 25)))
            clear h6 hq6 hm6 c0 c1 c2 cl e0 e1 e2 ef el
            go_wp2_with fail
            by_cases hsc : shutc (postb b (closeE b key day code)) day = 0
            · have hcl : closec b key day code = 0 := by rw [HR5.out, if_neg hne, if_neg (by simp [hpc]), hsc]
              have hcb : closeb b key day code = shutb (postb b (closeE b key day code)) day := by unfold closeb; rw [if_pos hcl]
              have HCL := Lib.hid (And.intro hcl hcb)
              clear hcl hcb
              refine (HSy.out _ _ _ _ _ _ _ HQ6.out hsc).mono ?_
              rintro e w7 ⟨A7, n7, c7, X7, m7, k7, rfl, ho7, hm⟩
              rw [show (shutb (postb b (closeE b key day code)) day).shut = day from rfl]
              have HO7 := Lib.hid ho7
              have HMw := Lib.hid (((HM0.out.trans' HW0.out).trans' HM6.out).trans' hm)
              have HSz := Lib.hid (show w.heap.size ≤ _ from ((HM0.out.trans' HW0.out).trans' HM6.out).below.size)
              have hr := HR.out _ ((HW0.out.trans' HM6.out).trans' hm)
              have z0 := hr.cell 0
              have z1 := hr.cell 1
              have z2 := hr.cell 2
              have f0 := hr.frozen 0
              have f1 := hr.frozen 1
              have f2 := hr.frozen 2
              have rl := hr.lt
              simp at z0 z1 z2
              have HRb := Lib.hid hr
              clear hr
              clear hm ho7
              go_wp2_with fail
              have hb9 := ((HRb.out.set_ 0 (.slice A7 n7 c7)).set_ 1 (.slice X7 m7 k7)).set_ 2 (.int .i64 day)
              simp only [List.setIfInBounds_toArray, List.set_cons_zero, List.set_cons_succ] at hb9
              have hm9 := ((HMw.out.setC (i := 0) (u := .slice A7 n7 c7) hwR).setC (i := 1) (u := .slice X7 m7 k7) hwR).setC (i := 2) (u := .int .i64 day) hwR
              have ho9 := (own3 (a := .slice A7 n7 c7) (a' := .slice X7 m7 k7) (a'' := .int .i64 day) HO7.out HRb.out).base HSz.out
              generalize ((w7.setCell ⟨bR, 0, none⟩ (.slice A7 n7 c7)).setCell ⟨bR, 1, none⟩ (.slice X7 m7 k7)).setCell ⟨bR, 2, none⟩ (.int .i64 day) = w9 at *
              have q0 := hb9.cell 0
              have q1 := hb9.cell 1
              have q2 := hb9.cell 2
              simp at q0 q1 q2
              refine bodyPost_ret (by simp [results, Try.results14, go_sem, q0, q1, q2]; try rfl) rfl ?_
              rw [HCL.out.1, HCL.out.2]
              exact ⟨A7, n7, c7, X7, m7, k7, rfl, ho9, hm9⟩
            · have hcl : closec b key day code = shutc (postb b (closeE b key day code)) day := by rw [HR5.out, if_neg hne, if_neg (by simp [hpc])]
              have hcb : closeb b key day code = zeroB := by unfold closeb; rw [if_neg (by rw [hcl]; exact hsc)]
              have HCL := Lib.hid (And.intro hcl hcb)
              clear hcl hcb
              refine (HSn.out _ _ _ _ _ _ _ HQ6.out hsc).mono ?_
              rintro e w7 ⟨rfl, hm⟩
              have HMw := Lib.hid (((HM0.out.trans' HW0.out).trans' HM6.out).trans' hm)
              have hr := HR.out _ ((HW0.out.trans' HM6.out).trans' hm)
              have z0 := hr.cell 0
              have z1 := hr.cell 1
              have z2 := hr.cell 2
              have f0 := hr.frozen 0
              have f1 := hr.frozen 1
              have f2 := hr.frozen 2
              have rl := hr.lt
              simp at z0 z1 z2
              have HRb := Lib.hid hr
              clear hr
              clear hm
              go_wp2_with fail
              have hb9 := ((HRb.out.set_ 0 (.slice none 0 0)).set_ 1 (.slice none 0 0)).set_ 2 (.int .i64 0)
              simp only [List.setIfInBounds_toArray, List.set_cons_zero, List.set_cons_succ] at hb9
              have hm9 := ((HMw.out.setC (i := 0) (u := .slice none 0 0) hwR).setC (i := 1) (u := .slice none 0 0) hwR).setC (i := 2) (u := .int .i64 0) hwR
              generalize ((w7.setCell ⟨bR, 0, none⟩ (.slice none 0 0)).setCell ⟨bR, 1, none⟩ (.slice none 0 0)).setCell ⟨bR, 2, none⟩ (.int .i64 0) = w9 at *
              have q0 := hb9.cell 0
              have q1 := hb9.cell 1
              have q2 := hb9.cell 2
              simp at q0 q1 q2
              refine bodyPost_ret (by simp [results, Try.results14, go_sem, q0, q1, q2]; try rfl) rfl ?_
              rw [HCL.out.1, HCL.out.2]
              exact any_no ⟨rfl, hm9⟩
          · have hcl : closec b key day code = postc b (closeE b key day code) := by rw [HR5.out, if_neg hne, if_pos hpc]
            have hcb : closeb b key day code = zeroB := by unfold closeb; rw [if_neg (by rw [hcl]; exact hpc)]
            have HCL := Lib.hid (And.intro hcl hcb)
            have hpb : (postc b (closeE b key day code) != 0) = true := by simpa using hpc
            refine (HPn.out _ (HM0.out.trans' HW0.out) _ _ _ HLq.out hpc).mono ?_
            rintro e w6 ⟨rfl, hm⟩
            generalize postc b (closeE b key day code) = r6 at *
            clear hcl hcb c0 c1 c2 cl e0 e1 e2 ef el
            have HMw := Lib.hid ((HM0.out.trans' HW0.out).trans' hm)
            have hr := HR.out _ (HW0.out.trans' hm)
            have z0 := hr.cell 0
            have z1 := hr.cell 1
            have z2 := hr.cell 2
            have f0 := hr.frozen 0
            have f1 := hr.frozen 1
            have f2 := hr.frozen 2
            have rl := hr.lt
            simp at z0 z1 z2
            have HRb := Lib.hid hr
            clear hr
            clear hm
            go_wp2_with fail
            have hb9 := ((HRb.out.set_ 0 (.slice none 0 0)).set_ 1 (.slice none 0 0)).set_ 2 (.int .i64 0)
            simp only [List.setIfInBounds_toArray, List.set_cons_zero, List.set_cons_succ] at hb9
            have hm9 := ((HMw.out.setC (i := 0) (u := .slice none 0 0) hwR).setC (i := 1) (u := .slice none 0 0) hwR).setC (i := 2) (u := .int .i64 0) hwR
            have hb9 := hb9.alloc (.cells #[.slice none 0 0, .slice none 0 0, .int .i64 0] 25)
            have hm9 := hm9.alloc (o := .cells #[.slice none 0 0, .slice none 0 0, .int .i64 0] 25)
            generalize (((w6.setCell ⟨bR, 0, none⟩ (.slice none 0 0)).setCell ⟨bR, 1, none⟩ (.slice none 0 0)).setCell ⟨bR, 2, none⟩ (.int .i64 0)).alloc (.cells #[.slice none 0 0, .slice none 0 0, .int .i64 0] 25) = w9 at *
            have q0 := hb9.cell 0
            have q1 := hb9.cell 1
            have q2 := hb9.cell 2
            simp at q0 q1 q2
            refine bodyPost_ret (by simp [results, Try.results14, go_sem, q0, q1, q2]; try rfl) rfl ?_
            rw [HCL.out.1, HCL.out.2]
            exact any_no ⟨rfl, hm9⟩
        · have hSb : (S != 0) = true := by simpa using hS0
          go_wp2_with (at_builtin; refine wpList_append_own _ rfl _ _ 30 rfl (bE + 1) 41 i0 (.agg #[.string { data := #[] }, .int .i64 0]) 2 24 Try.underlying30 hi0 hz0 hz1 hz2 rfl (by decide) _ _ _ rfl (HRow.out.alloc (.cells #[.string code, .int .i64 S] 41)) ⟨wr.heap.size, 0, none⟩ 1 1 [.string code, .int .i64 S] rfl rfl ?_ ?_ ?_ ?_ ?_ ?_)
          case refine_6 =>
            intro v' w5 hown' hgrow _
            obtain ⟨A5, c5, rfl, _, _, _⟩ := own_shape hown'
            have hm5 : Mor w2 w5 := own_step (own_base (HRow.out.alloc (.cells #[.string code, .int .i64 S] 41)) (by have := HgE.out; omega)) (HM2r.out.alloc) hgrow
            have hE5 := Bk.growT (HEr.out.alloc (.cells #[.string code, .int .i64 S] 41)) (HRow.out.alloc (.cells #[.string code, .int .i64 S] 41)) hgrow (by decide)
            have e2 := hE5.cell 2
            have ef := hE5.frozen 2
            have el := hE5.lt
            simp at e2
            have hE6 := hE5.set_ 2 (.slice A5 (ls.length + 1) c5)
            simp only [List.setIfInBounds_toArray, List.set_cons_zero, List.set_cons_succ] at hE6
            have hO6 := own_set (i := 2) (u := .slice A5 (ls.length + 1) c5) hown' (show bE < bE + 1 by omega)
            have hM6 := hm5.setC (i := 2) (u := .slice A5 (ls.length + 1) c5) (show w2.heap.size ≤ bE by have := HgE.out; omega)
            have HO6 := Lib.hid hO6
            have HW0 := Lib.hid (HM02.out.trans' hM6)
            have hne' : bP ≠ bE := by omega
            have hp := HP.out _ (HM02.out.trans' hm5)
            have c0 := hp.cell 0
            have c1 := hp.cell 1
            have c2 := hp.cell 2
            have cl := hp.lt
            have e0 := hE5.cell 0
            have e1 := hE5.cell 1
            simp at c0 c1 c2 e0 e1
            clear hown' hgrow hm5 hE5 hE6 hO6 hM6 hp
            go_wp2_with fail
            clear c0 c1 c2 cl e0 e1 e2 ef el
            generalize w5.setCell ⟨bE, 2, none⟩ (.slice A5 (ls.length + 1) c5) = w55 at *
            have HLq := Lib.hid (show Lq w55 A5 (ls.length + 1) c5 (closeE b key day code).ls by
              obtain ⟨A9, c9, e9, hq9⟩ := own_lq (xs := ls ++ [(code, S)]) (by rw [flat_snoc]; simpa [pc] using HO6.out) (by rw [List.length_append]; rfl) (fun i hi => by
                by_cases h : i < ls.length
                · have e : cd (ls ++ [(code, S)]) i = cd ls i := by unfold cd; rw [List.getD_eq_getElem?_getD, List.getD_eq_getElem?_getD, List.getElem?_append_left h]
                  rw [e, (cd_at ls i h).1]; exact HStr.out _ (List.getElem_mem h)
                · have h2 : i = ls.length := by omega
                  subst h2
                  have e : cd (ls ++ [(code, S)]) ls.length = code := by unfold cd; rw [List.getD_eq_getElem?_getD, List.getElem?_append_right (Nat.le_refl _), Nat.sub_self]; rfl
                  rw [e]; exact HCs.out)
              injection e9 with g1 _ g3
              subst g1 g3
              rw [HXl.out, if_pos hS0]
              exact hq9)
            have c0 := True.intro
            have c1 := True.intro
            have c2 := True.intro
            have cl := True.intro
            have e0 := True.intro
            have e1 := True.intro
            have e2 := True.intro
            have ef := True.intro
            have el := True.intro
            by_cases hpc : postc b (closeE b key day code) = 0
            · refine (HPo.out _ (HM0.out.trans' HW0.out) _ _ _ HLq.out hpc).mono ?_
              intro e w6 h6
              obtain ⟨A6, n6, c6, X6, m6, k6, rfl, hq6, -, hm6⟩ := postYes_bq h6
              rw [HSs.out]
              have HM6 := Lib.hid (hm6.alloc (o := .cells #[.slice A6 n6 c6, .slice X6 m6 k6, .int .i64 sh] 25))
              have HQ6 := Lib.hid (hq6.mor ((Mor.refl w6).alloc (o := .cells #[.slice A6 n6 c6, .slice X6 m6 k6, .int .i64 sh] 25)))
              clear h6 hq6 hm6 c0 c1 c2 cl e0 e1 e2 ef el
              go_wp2_with fail
              by_cases hsc : shutc (postb b (closeE b key day code)) day = 0
              · have hcl : closec b key day code = 0 := by rw [HR5.out, if_neg hne, if_neg (by simp [hpc]), hsc]
                have hcb : closeb b key day code = shutb (postb b (closeE b key day code)) day := by unfold closeb; rw [if_pos hcl]
                have HCL := Lib.hid (And.intro hcl hcb)
                clear hcl hcb
                refine (HSy.out _ _ _ _ _ _ _ HQ6.out hsc).mono ?_
                rintro e w7 ⟨A7, n7, c7, X7, m7, k7, rfl, ho7, hm⟩
                rw [show (shutb (postb b (closeE b key day code)) day).shut = day from rfl]
                have HO7 := Lib.hid ho7
                have HMw := Lib.hid (((HM0.out.trans' HW0.out).trans' HM6.out).trans' hm)
                have HSz := Lib.hid (show w.heap.size ≤ _ from ((HM0.out.trans' HW0.out).trans' HM6.out).below.size)
                have hr := HR.out _ ((HW0.out.trans' HM6.out).trans' hm)
                have z0 := hr.cell 0
                have z1 := hr.cell 1
                have z2 := hr.cell 2
                have f0 := hr.frozen 0
                have f1 := hr.frozen 1
                have f2 := hr.frozen 2
                have rl := hr.lt
                simp at z0 z1 z2
                have HRb := Lib.hid hr
                clear hr
                clear hm ho7
                go_wp2_with fail
                have hb9 := ((HRb.out.set_ 0 (.slice A7 n7 c7)).set_ 1 (.slice X7 m7 k7)).set_ 2 (.int .i64 day)
                simp only [List.setIfInBounds_toArray, List.set_cons_zero, List.set_cons_succ] at hb9
                have hm9 := ((HMw.out.setC (i := 0) (u := .slice A7 n7 c7) hwR).setC (i := 1) (u := .slice X7 m7 k7) hwR).setC (i := 2) (u := .int .i64 day) hwR
                have ho9 := (own3 (a := .slice A7 n7 c7) (a' := .slice X7 m7 k7) (a'' := .int .i64 day) HO7.out HRb.out).base HSz.out
                generalize ((w7.setCell ⟨bR, 0, none⟩ (.slice A7 n7 c7)).setCell ⟨bR, 1, none⟩ (.slice X7 m7 k7)).setCell ⟨bR, 2, none⟩ (.int .i64 day) = w9 at *
                have q0 := hb9.cell 0
                have q1 := hb9.cell 1
                have q2 := hb9.cell 2
                simp at q0 q1 q2
                refine bodyPost_ret (by simp [results, Try.results14, go_sem, q0, q1, q2]; try rfl) rfl ?_
                rw [HCL.out.1, HCL.out.2]
                exact ⟨A7, n7, c7, X7, m7, k7, rfl, ho9, hm9⟩
              · have hcl : closec b key day code = shutc (postb b (closeE b key day code)) day := by rw [HR5.out, if_neg hne, if_neg (by simp [hpc])]
                have hcb : closeb b key day code = zeroB := by unfold closeb; rw [if_neg (by rw [hcl]; exact hsc)]
                have HCL := Lib.hid (And.intro hcl hcb)
                clear hcl hcb
                refine (HSn.out _ _ _ _ _ _ _ HQ6.out hsc).mono ?_
                rintro e w7 ⟨rfl, hm⟩
                have HMw := Lib.hid (((HM0.out.trans' HW0.out).trans' HM6.out).trans' hm)
                have hr := HR.out _ ((HW0.out.trans' HM6.out).trans' hm)
                have z0 := hr.cell 0
                have z1 := hr.cell 1
                have z2 := hr.cell 2
                have f0 := hr.frozen 0
                have f1 := hr.frozen 1
                have f2 := hr.frozen 2
                have rl := hr.lt
                simp at z0 z1 z2
                have HRb := Lib.hid hr
                clear hr
                clear hm
                go_wp2_with fail
                have hb9 := ((HRb.out.set_ 0 (.slice none 0 0)).set_ 1 (.slice none 0 0)).set_ 2 (.int .i64 0)
                simp only [List.setIfInBounds_toArray, List.set_cons_zero, List.set_cons_succ] at hb9
                have hm9 := ((HMw.out.setC (i := 0) (u := .slice none 0 0) hwR).setC (i := 1) (u := .slice none 0 0) hwR).setC (i := 2) (u := .int .i64 0) hwR
                generalize ((w7.setCell ⟨bR, 0, none⟩ (.slice none 0 0)).setCell ⟨bR, 1, none⟩ (.slice none 0 0)).setCell ⟨bR, 2, none⟩ (.int .i64 0) = w9 at *
                have q0 := hb9.cell 0
                have q1 := hb9.cell 1
                have q2 := hb9.cell 2
                simp at q0 q1 q2
                refine bodyPost_ret (by simp [results, Try.results14, go_sem, q0, q1, q2]; try rfl) rfl ?_
                rw [HCL.out.1, HCL.out.2]
                exact any_no ⟨rfl, hm9⟩
            · have hcl : closec b key day code = postc b (closeE b key day code) := by rw [HR5.out, if_neg hne, if_pos hpc]
              have hcb : closeb b key day code = zeroB := by unfold closeb; rw [if_neg (by rw [hcl]; exact hpc)]
              have HCL := Lib.hid (And.intro hcl hcb)
              have hpb : (postc b (closeE b key day code) != 0) = true := by simpa using hpc
              refine (HPn.out _ (HM0.out.trans' HW0.out) _ _ _ HLq.out hpc).mono ?_
              rintro e w6 ⟨rfl, hm⟩
              generalize postc b (closeE b key day code) = r6 at *
              clear hcl hcb c0 c1 c2 cl e0 e1 e2 ef el
              have HMw := Lib.hid ((HM0.out.trans' HW0.out).trans' hm)
              have hr := HR.out _ (HW0.out.trans' hm)
              have z0 := hr.cell 0
              have z1 := hr.cell 1
              have z2 := hr.cell 2
              have f0 := hr.frozen 0
              have f1 := hr.frozen 1
              have f2 := hr.frozen 2
              have rl := hr.lt
              simp at z0 z1 z2
              have HRb := Lib.hid hr
              clear hr
              clear hm
              go_wp2_with fail
              have hb9 := ((HRb.out.set_ 0 (.slice none 0 0)).set_ 1 (.slice none 0 0)).set_ 2 (.int .i64 0)
              simp only [List.setIfInBounds_toArray, List.set_cons_zero, List.set_cons_succ] at hb9
              have hm9 := ((HMw.out.setC (i := 0) (u := .slice none 0 0) hwR).setC (i := 1) (u := .slice none 0 0) hwR).setC (i := 2) (u := .int .i64 0) hwR
              have hb9 := hb9.alloc (.cells #[.slice none 0 0, .slice none 0 0, .int .i64 0] 25)
              have hm9 := hm9.alloc (o := .cells #[.slice none 0 0, .slice none 0 0, .int .i64 0] 25)
              generalize (((w6.setCell ⟨bR, 0, none⟩ (.slice none 0 0)).setCell ⟨bR, 1, none⟩ (.slice none 0 0)).setCell ⟨bR, 2, none⟩ (.int .i64 0)).alloc (.cells #[.slice none 0 0, .slice none 0 0, .int .i64 0] 25) = w9 at *
              have q0 := hb9.cell 0
              have q1 := hb9.cell 1
              have q2 := hb9.cell 2
              simp at q0 q1 q2
              refine bodyPost_ret (by simp [results, Try.results14, go_sem, q0, q1, q2]; try rfl) rfl ?_
              rw [HCL.out.1, HCL.out.2]
              exact any_no ⟨rfl, hm9⟩
          all_goals try (first | (exact rfl) | (intro u hu; simp at hu; rcases hu with rfl | rfl <;> rfl) | (unfold maxLen; omega) | omega | (simp [go_sem]; omega) | (intro j u hj; match j, hj with | 0, hj => simp at hj; subst hj; simp [Addr.add] | 1, hj => simp at hj; subst hj; simp [Addr.add]))

end Go.Proofs.Ytdfacejepmolbaa
