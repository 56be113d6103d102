/- The walks of book.Shut and book.Get (printed by gbookn.py). -/
import Derived.Test.YtpgefclnplmlkaaBookL
import Derived.Test.YtpgefclnplmlkaaPlainBl
namespace Go.Proofs.Ytpgefclnplmlkaa
open Go.ChangeShapes Go.WideShapes Go.ChangeAt Go.RowKit Go.PlainAid
set_option linter.unusedVariables false


theorem put3a {w W w9 : World} {bR : Nat} {T : TypeId} {a b c : Value} (u0 u1 u2 : Value) (o : Obj) (hM : Mor w W) (hR : Bk W bR T #[a, b, c]) (hb : w.heap.size ≤ bR) (h : w9 = (((W.setCell ⟨bR, 0, none⟩ u0).setCell ⟨bR, 1, none⟩ u1).setCell ⟨bR, 2, none⟩ u2).alloc o) :
    (w9.cell? ⟨bR, 0, none⟩ = some u0 ∧ w9.cell? ⟨bR, 1, none⟩ = some u1 ∧ w9.cell? ⟨bR, 2, none⟩ = some u2) ∧ Mor w w9 := by
  have hB := (((hR.set_ 0 u0).set_ 1 u1).set_ 2 u2).alloc o
  rw [← h] at hB
  refine ⟨⟨by rw [hB.cell]; rfl, by rw [hB.cell]; rfl, by rw [hB.cell]; rfl⟩, ?_⟩
  rw [h]
  exact (Mor.of_below (((hM.below.setCell (p := ⟨bR, 0, none⟩) hb _).setCell (p := ⟨bR, 1, none⟩) hb _).setCell (p := ⟨bR, 2, none⟩) hb _)).alloc

def shutc (b : Bok) (day : Int) : Int := if bookc b ≠ 0 then bookc b else if day < 0 ∨ 292193 < day then 1 else if day < b.shut then 9 else 0
def shutb (b : Bok) (day : Int) : Bok := { b with shut := day }

set_option maxRecDepth 100000 in
set_option maxHeartbeats 1600000 in
theorem shut_bad1 (A : Option Addr) (n c : Nat) (X : Option Addr) (m k : Nat) (b : Bok) (day : Int) (w : World) (hb : Bq w A n c X m k b) (hc : bookc b ≠ 0) :
    Calls Try.prog 15 #[bv A n c X m k b.shut, .int .i64 day] w (PostNo w (bookc b)) := by
  have HCk := Lib.hid (fun w' (hm : Mor w w') => bcheck_any A n c X m k b w' (hb.mor hm))
  have HD := Lib.hid (fun w => cis_any day w)
  generalize bookc b = r at *
  have hr : (r != 0) = true := by simpa using hc
  clear hc hb
  generalize b.shut = sh at *
  go_enter Try.func15, Try.ntmps15
  go_wp2_with fail
  have hP0 := (Bk.new w 25 #[.slice A n c, .slice X m k, .int .i64 sh]).alloc (.cells #[.slice none 0 0, .slice none 0 0, .int .i64 0] 25)
  have hR0 := Bk.new (w.alloc (.cells #[.slice A n c, .slice X m k, .int .i64 sh] 25)) 25 #[.slice none 0 0, .slice none 0 0, .int .i64 0]
  have hM0 := ((Mor.refl w).alloc (o := .cells #[.slice A n c, .slice X m k, .int .i64 sh] 25)).alloc (o := .cells #[.slice none 0 0, .slice none 0 0, .int .i64 0] 25)
  rw [← sz1] at hR0
  obtain ⟨bP, hbP⟩ : ∃ b, b = w.heap.size := ⟨_, rfl⟩
  rw [← hbP] at hP0 hR0 ⊢
  obtain ⟨bR, hbR⟩ : ∃ b, b = bP + 1 := ⟨_, rfl⟩
  rw [← hbR] at hR0 ⊢
  generalize (w.alloc (.cells #[.slice A n c, .slice X m k, .int .i64 sh] 25)).alloc (.cells #[.slice none 0 0, .slice none 0 0, .int .i64 0] 25) = w0 at *
  have HP := Lib.hid (fun w' (h : Mor w0 w') => hP0.mor h)
  have HR := Lib.hid (fun w' (h : Mor w0 w') => hR0.mor h)
  have HM0 := Lib.hid hM0
  have HbR := Lib.hid (And.intro (show w.heap.size ≤ bR by omega) (And.intro (show bP < bR by omega) (show bR < w0.heap.size from hR0.lt)))
  clear hP0 hR0 hM0 hbP hbR
  refine (HCk.out _ HM0.out).mono ?_
  rintro e w1 ⟨rfl, hm⟩
  have HM1 := Lib.hid hm
  clear hm
  have hc := HP.out _ HM1.out
  have c0 := hc.cell 0
  have c1 := hc.cell 1
  have c2 := hc.cell 2
  have cl := hc.lt
  have hz := HR.out _ HM1.out
  have z0 := hz.cell 0
  have z1 := hz.cell 1
  have z2 := hz.cell 2
  have zf0 := hz.frozen 0
  have zf1 := hz.frozen 1
  have zf2 := hz.frozen 2
  have zl := hz.lt
  simp at c0 c1 c2 z0 z1 z2
  clear hc hz
  have HE9 := Lib.hid (fun w9 (h : w9 = (((w1.setCell ⟨bR, 0, none⟩ (.slice none 0 0)).setCell ⟨bR, 1, none⟩ (.slice none 0 0)).setCell ⟨bR, 2, none⟩ (.int .i64 0))) => put3 (w := w) _ _ _ (HM0.out.trans' HM1.out) (HR.out _ HM1.out) HbR.out.1 h)
  go_wp2_with fail
  obtain ⟨w9, hw9⟩ : ∃ w9, w9 = (((w1.setCell ⟨bR, 0, none⟩ (.slice none 0 0)).setCell ⟨bR, 1, none⟩ (.slice none 0 0)).setCell ⟨bR, 2, none⟩ (.int .i64 0)) := ⟨_, rfl⟩
  rw [← hw9]
  obtain ⟨⟨q0, q1, q2⟩, q3⟩ := HE9.out w9 hw9
  clear hw9
  refine bodyPost_ret (by simp [results, Try.results15, go_sem, q0, q1, q2]; try rfl) rfl ?_
  exact ⟨rfl, q3⟩

set_option maxRecDepth 100000 in
set_option maxHeartbeats 1600000 in
theorem shut_bad2 (A : Option Addr) (n c : Nat) (X : Option Addr) (m k : Nat) (b : Bok) (day : Int) (w : World) (hb : Bq w A n c X m k b) (hc : bookc b = 0) (hd : day < 0 ∨ 292193 < day) :
    Calls Try.prog 15 #[bv A n c X m k b.shut, .int .i64 day] w (PostNo w 1) := by
  have HCk := Lib.hid (fun w' (hm : Mor w w') => bcheck_any A n c X m k b w' (hb.mor hm))
  have HD := Lib.hid (fun w => cis_any day w)
  rw [hc] at HCk
  rw [show (decide (0 ≤ day) && decide (day ≤ 292193)) = false by simp; omega] at HD
  clear hc hb hd
  generalize b.shut = sh at *
  go_enter Try.func15, Try.ntmps15
  go_wp2_with fail
  have hP0 := (Bk.new w 25 #[.slice A n c, .slice X m k, .int .i64 sh]).alloc (.cells #[.slice none 0 0, .slice none 0 0, .int .i64 0] 25)
  have hR0 := Bk.new (w.alloc (.cells #[.slice A n c, .slice X m k, .int .i64 sh] 25)) 25 #[.slice none 0 0, .slice none 0 0, .int .i64 0]
  have hM0 := ((Mor.refl w).alloc (o := .cells #[.slice A n c, .slice X m k, .int .i64 sh] 25)).alloc (o := .cells #[.slice none 0 0, .slice none 0 0, .int .i64 0] 25)
  rw [← sz1] at hR0
  obtain ⟨bP, hbP⟩ : ∃ b, b = w.heap.size := ⟨_, rfl⟩
  rw [← hbP] at hP0 hR0 ⊢
  obtain ⟨bR, hbR⟩ : ∃ b, b = bP + 1 := ⟨_, rfl⟩
  rw [← hbR] at hR0 ⊢
  generalize (w.alloc (.cells #[.slice A n c, .slice X m k, .int .i64 sh] 25)).alloc (.cells #[.slice none 0 0, .slice none 0 0, .int .i64 0] 25) = w0 at *
  have HP := Lib.hid (fun w' (h : Mor w0 w') => hP0.mor h)
  have HR := Lib.hid (fun w' (h : Mor w0 w') => hR0.mor h)
  have HM0 := Lib.hid hM0
  have HbR := Lib.hid (And.intro (show w.heap.size ≤ bR by omega) (And.intro (show bP < bR by omega) (show bR < w0.heap.size from hR0.lt)))
  clear hP0 hR0 hM0 hbP hbR
  refine (HCk.out _ HM0.out).mono ?_
  rintro e w1 ⟨rfl, hm⟩
  have HM1 := Lib.hid hm
  clear hm
  have hc := HP.out _ HM1.out
  have c0 := hc.cell 0
  have c1 := hc.cell 1
  have c2 := hc.cell 2
  have cl := hc.lt
  have hz := HR.out _ HM1.out
  have z0 := hz.cell 0
  have z1 := hz.cell 1
  have z2 := hz.cell 2
  have zf0 := hz.frozen 0
  have zf1 := hz.frozen 1
  have zf2 := hz.frozen 2
  have zl := hz.lt
  simp at c0 c1 c2 z0 z1 z2
  clear hc hz
  have HE9 := Lib.hid (fun w9 (h : w9 = (((w1.setCell ⟨bR, 0, none⟩ (.slice none 0 0)).setCell ⟨bR, 1, none⟩ (.slice none 0 0)).setCell ⟨bR, 2, none⟩ (.int .i64 0))) => put3 (w := w) _ _ _ (HM0.out.trans' HM1.out) (HR.out _ HM1.out) HbR.out.1 h)
  go_wp2_with (go_at_call 38; (with_reducible refine (HD.out _).mono ?_); rintro e w2 ⟨rfl, rfl⟩)
  obtain ⟨w9, hw9⟩ : ∃ w9, w9 = (((w1.setCell ⟨bR, 0, none⟩ (.slice none 0 0)).setCell ⟨bR, 1, none⟩ (.slice none 0 0)).setCell ⟨bR, 2, none⟩ (.int .i64 0)) := ⟨_, rfl⟩
  rw [← hw9]
  obtain ⟨⟨q0, q1, q2⟩, q3⟩ := HE9.out w9 hw9
  clear hw9
  refine bodyPost_ret (by simp [results, Try.results15, go_sem, q0, q1, q2]; try rfl) rfl ?_
  exact ⟨rfl, q3⟩

set_option maxRecDepth 100000 in
set_option maxHeartbeats 1600000 in
theorem shut_bad9 (A : Option Addr) (n c : Nat) (X : Option Addr) (m k : Nat) (b : Bok) (day : Int) (w : World) (hb : Bq w A n c X m k b) (hc : bookc b = 0) (h0 : 0 ≤ day) (h9 : day ≤ 292193) (hs : day < b.shut) :
    Calls Try.prog 15 #[bv A n c X m k b.shut, .int .i64 day] w (PostNo w 9) := by
  have HCk := Lib.hid (fun w' (hm : Mor w w') => bcheck_any A n c X m k b w' (hb.mor hm))
  have HD := Lib.hid (fun w => cis_any day w)
  rw [hc] at HCk
  rw [show (decide (0 ≤ day) && decide (day ≤ 292193)) = true by simp; omega] at HD
  clear hc hb
  generalize b.shut = sh at *
  go_enter Try.func15, Try.ntmps15
  go_wp2_with fail
  have hP0 := (Bk.new w 25 #[.slice A n c, .slice X m k, .int .i64 sh]).alloc (.cells #[.slice none 0 0, .slice none 0 0, .int .i64 0] 25)
  have hR0 := Bk.new (w.alloc (.cells #[.slice A n c, .slice X m k, .int .i64 sh] 25)) 25 #[.slice none 0 0, .slice none 0 0, .int .i64 0]
  have hM0 := ((Mor.refl w).alloc (o := .cells #[.slice A n c, .slice X m k, .int .i64 sh] 25)).alloc (o := .cells #[.slice none 0 0, .slice none 0 0, .int .i64 0] 25)
  rw [← sz1] at hR0
  obtain ⟨bP, hbP⟩ : ∃ b, b = w.heap.size := ⟨_, rfl⟩
  rw [← hbP] at hP0 hR0 ⊢
  obtain ⟨bR, hbR⟩ : ∃ b, b = bP + 1 := ⟨_, rfl⟩
  rw [← hbR] at hR0 ⊢
  generalize (w.alloc (.cells #[.slice A n c, .slice X m k, .int .i64 sh] 25)).alloc (.cells #[.slice none 0 0, .slice none 0 0, .int .i64 0] 25) = w0 at *
  have HP := Lib.hid (fun w' (h : Mor w0 w') => hP0.mor h)
  have HR := Lib.hid (fun w' (h : Mor w0 w') => hR0.mor h)
  have HM0 := Lib.hid hM0
  have HbR := Lib.hid (And.intro (show w.heap.size ≤ bR by omega) (And.intro (show bP < bR by omega) (show bR < w0.heap.size from hR0.lt)))
  clear hP0 hR0 hM0 hbP hbR
  refine (HCk.out _ HM0.out).mono ?_
  rintro e w1 ⟨rfl, hm⟩
  have HM1 := Lib.hid hm
  clear hm
  have hc := HP.out _ HM1.out
  have c0 := hc.cell 0
  have c1 := hc.cell 1
  have c2 := hc.cell 2
  have cl := hc.lt
  have hz := HR.out _ HM1.out
  have z0 := hz.cell 0
  have z1 := hz.cell 1
  have z2 := hz.cell 2
  have zf0 := hz.frozen 0
  have zf1 := hz.frozen 1
  have zf2 := hz.frozen 2
  have zl := hz.lt
  simp at c0 c1 c2 z0 z1 z2
  clear hc hz
  have HE9 := Lib.hid (fun w9 (h : w9 = (((w1.setCell ⟨bR, 0, none⟩ (.slice none 0 0)).setCell ⟨bR, 1, none⟩ (.slice none 0 0)).setCell ⟨bR, 2, none⟩ (.int .i64 0))) => put3 (w := w) _ _ _ (HM0.out.trans' HM1.out) (HR.out _ HM1.out) HbR.out.1 h)
  go_wp2_with (go_at_call 38; (with_reducible refine (HD.out _).mono ?_); rintro e w2 ⟨rfl, rfl⟩)
  obtain ⟨w9, hw9⟩ : ∃ w9, w9 = (((w1.setCell ⟨bR, 0, none⟩ (.slice none 0 0)).setCell ⟨bR, 1, none⟩ (.slice none 0 0)).setCell ⟨bR, 2, none⟩ (.int .i64 0)) := ⟨_, rfl⟩
  rw [← hw9]
  obtain ⟨⟨q0, q1, q2⟩, q3⟩ := HE9.out w9 hw9
  clear hw9
  refine bodyPost_ret (by simp [results, Try.results15, go_sem, q0, q1, q2]; try rfl) rfl ?_
  exact ⟨rfl, q3⟩

set_option maxRecDepth 100000 in
set_option maxHeartbeats 1600000 in
theorem shut_yes (A : Option Addr) (n c : Nat) (X : Option Addr) (m k : Nat) (b : Bok) (day : Int) (w : World) (hb : Bq w A n c X m k b) (hc : bookc b = 0) (h0 : 0 ≤ day) (h9 : day ≤ 292193) (hs : ¬ day < b.shut) :
    Calls Try.prog 15 #[bv A n c X m k b.shut, .int .i64 day] w (PostYes w (shutb b day)) := by
  have HCk := Lib.hid (fun w' (hm : Mor w w') => bcheck_any A n c X m k b w' (hb.mor hm))
  have HD := Lib.hid (fun w => cis_any day w)
  rw [hc] at HCk
  rw [show (decide (0 ≤ day) && decide (day ≤ 292193)) = true by simp; omega] at HD
  have hm60 : m ≤ 60 := by rw [← hb.length]; exact ((bookc_iff b).1 hc).len
  have hn24 : n ≤ 24 := by rw [← hb.ac.length]; exact (acc_len ((bookc_iff b).1 hc).ac)
  have HCp := Lib.hid (fun w' (h : Mor w w') => copied_any A n c X m k b w' (hb.mor h) (by omega) (by omega) (fun y hy => by have := (linec_ok (entc_ok (((bookc_iff b).1 hc).enc y hy)).2.2.2).1; omega))
  clear hc hb
  generalize hsh : b.shut = sh at *
  have HSh := Lib.hid hsh
  clear hsh
  go_enter Try.func15, Try.ntmps15
  go_wp2_with fail
  have hP0 := (Bk.new w 25 #[.slice A n c, .slice X m k, .int .i64 sh]).alloc (.cells #[.slice none 0 0, .slice none 0 0, .int .i64 0] 25)
  have hR0 := Bk.new (w.alloc (.cells #[.slice A n c, .slice X m k, .int .i64 sh] 25)) 25 #[.slice none 0 0, .slice none 0 0, .int .i64 0]
  have hM0 := ((Mor.refl w).alloc (o := .cells #[.slice A n c, .slice X m k, .int .i64 sh] 25)).alloc (o := .cells #[.slice none 0 0, .slice none 0 0, .int .i64 0] 25)
  rw [← sz1] at hR0
  obtain ⟨bP, hbP⟩ : ∃ b, b = w.heap.size := ⟨_, rfl⟩
  rw [← hbP] at hP0 hR0 ⊢
  obtain ⟨bR, hbR⟩ : ∃ b, b = bP + 1 := ⟨_, rfl⟩
  rw [← hbR] at hR0 ⊢
  generalize (w.alloc (.cells #[.slice A n c, .slice X m k, .int .i64 sh] 25)).alloc (.cells #[.slice none 0 0, .slice none 0 0, .int .i64 0] 25) = w0 at *
  have HP := Lib.hid (fun w' (h : Mor w0 w') => hP0.mor h)
  have HR := Lib.hid (fun w' (h : Mor w0 w') => hR0.mor h)
  have HM0 := Lib.hid hM0
  have HbR := Lib.hid (And.intro (show w.heap.size ≤ bR by omega) (And.intro (show bP < bR by omega) (show bR < w0.heap.size from hR0.lt)))
  clear hP0 hR0 hM0 hbP hbR
  refine (HCk.out _ HM0.out).mono ?_
  rintro e w1 ⟨rfl, hm⟩
  have HM1 := Lib.hid hm
  clear hm
  have hc := HP.out _ HM1.out
  have c0 := hc.cell 0
  have c1 := hc.cell 1
  have c2 := hc.cell 2
  have cl := hc.lt
  have hz := HR.out _ HM1.out
  have z0 := hz.cell 0
  have z1 := hz.cell 1
  have z2 := hz.cell 2
  have zf0 := hz.frozen 0
  have zf1 := hz.frozen 1
  have zf2 := hz.frozen 2
  have zl := hz.lt
  simp at c0 c1 c2 z0 z1 z2
  clear hc hz
  go_wp2_with (first | (go_at_call 38; (with_reducible refine (HD.out _).mono ?_); rintro e w2 ⟨rfl, rfl⟩))
  refine (HCp.out _ (HM0.out.trans' HM1.out)).mono ?_
  rintro e w5 ⟨vA, vX, rfl, hown, hm⟩
  obtain ⟨A5, c5, X5, k5, rfl, rfl, hbq5⟩ := hown.bq
  have HM5 := Lib.hid (HM1.out.trans' hm)
  have HO5 := Lib.hid hown
  have HSz := Lib.hid (show w.heap.size ≤ w1.heap.size ∧ bR < w1.heap.size ∧ w1.heap.size ≤ w5.heap.size from ⟨(HM0.out.trans' HM1.out).below.size, (HR.out _ HM1.out).lt, hm.below.size⟩)
  clear hm hown hbq5
  clear c0 c1 c2 cl z0 z1 z2 zl zf0 zf1 zf2
  have hc := HP.out _ HM5.out
  have c0 := hc.cell 0
  have c1 := hc.cell 1
  have c2 := hc.cell 2
  have cl := hc.lt
  have hz := HR.out _ HM5.out
  have z0 := hz.cell 0
  have z1 := hz.cell 1
  have z2 := hz.cell 2
  have zf0 := hz.frozen 0
  have zf1 := hz.frozen 1
  have zf2 := hz.frozen 2
  have zl := hz.lt
  simp at c0 c1 c2 z0 z1 z2
  clear hc hz
  rw [HSh.out]
  obtain ⟨w9, hw9⟩ : ∃ w9, w9 = (((w5.setCell ⟨bR, 0, none⟩ (.slice A5 n c5)).setCell ⟨bR, 1, none⟩ (.slice X5 m k5)).setCell ⟨bR, 2, none⟩ (.int .i64 day)).alloc (.cells #[.slice A5 n c5, .slice X5 m k5, .int .i64 day] 25) := ⟨_, rfl⟩
  have HE9 := Lib.hid (put3a (w := w) _ _ _ _ (HM0.out.trans' HM5.out) (HR.out _ HM5.out) HbR.out.1 hw9)
  have HB9 := Lib.hid (show OwnB w9 w.heap.size (.slice A5 n c5) (.slice X5 m k5) n m (shutb b day) by
    have h := ((((HO5.out.setlt (i := 0) (u := .slice A5 n c5) HSz.out.2.1).setlt (i := 1) (u := .slice X5 m k5) HSz.out.2.1).setlt (i := 2) (u := .int .i64 day) HSz.out.2.1).base HSz.out.1).mor ((Mor.refl _).alloc (o := .cells #[.slice A5 n c5, .slice X5 m k5, .int .i64 day] 25))
    rw [← hw9] at h
    obtain ⟨a1, a2, a3, qs, a4⟩ := h
    exact ⟨a1, a2, a3, qs, a4⟩)
  have HW9 := Lib.hid hw9
  clear hw9
  go_wp2_with fail
  rw [← HW9.out]
  obtain ⟨⟨q0, q1, q2⟩, q3⟩ := HE9.out
  refine bodyPost_ret (by simp [results, Try.results15, go_sem, q0, q1, q2]; try rfl) rfl ?_
  exact ⟨A5, n, c5, X5, m, k5, rfl, HB9.out, q3⟩


def getc (b : Bok) (key : ByteArray) : Int := if bookc b ≠ 0 then bookc b else if findE b.en key < 0 then 4 else 0
def GetNo (w : World) (c : Int) (e : Ending) (w' : World) : Prop := e = .returned (.tuple #[.agg #[.string { data := #[] }, .int .i64 0, .slice none 0 0], .int .i64 c]) ∧ Mor w w'
def GetYes (w : World) (x : En) (e : Ending) (w' : World) : Prop := ∃ A n c, e = .returned (.tuple #[.agg #[.string x.key, .int .i64 x.day, .slice A n c], .int .i64 0]) ∧ OwnE w' w.heap.size ⟨x.key, x.day, A, n, c⟩ x ∧ Mor w w'

set_option maxRecDepth 100000 in
set_option maxHeartbeats 1600000 in
theorem get_bad1 (A : Option Addr) (n c : Nat) (X : Option Addr) (m k : Nat) (b : Bok) (key : ByteArray) (w : World) (hb : Bq w A n c X m k b) (hc : bookc b ≠ 0) :
    Calls Try.prog 26 #[bv A n c X m k b.shut, .string key] w (GetNo w (bookc b)) := by
  have HCk := Lib.hid (fun w' (hm : Mor w w') => bcheck_any A n c X m k b w' (hb.mor hm))
  generalize bookc b = r at *
  have hr : (r != 0) = true := by simpa using hc
  clear hc hb
  generalize b.shut = sh at *
  go_enter Try.func26, Try.ntmps26
  go_wp2_with fail
  have hP0 := (Bk.new w 25 #[.slice A n c, .slice X m k, .int .i64 sh]).alloc (.cells #[.string { data := #[] }, .int .i64 0, .slice none 0 0] 42)
  have hR0 := Bk.new (w.alloc (.cells #[.slice A n c, .slice X m k, .int .i64 sh] 25)) 42 #[.string { data := #[] }, .int .i64 0, .slice none 0 0]
  have hM0 := ((Mor.refl w).alloc (o := .cells #[.slice A n c, .slice X m k, .int .i64 sh] 25)).alloc (o := .cells #[.string { data := #[] }, .int .i64 0, .slice none 0 0] 42)
  rw [← sz1] at hR0
  obtain ⟨bP, hbP⟩ : ∃ b, b = w.heap.size := ⟨_, rfl⟩
  rw [← hbP] at hP0 hR0 ⊢
  obtain ⟨bR, hbR⟩ : ∃ b, b = bP + 1 := ⟨_, rfl⟩
  rw [← hbR] at hR0 ⊢
  generalize (w.alloc (.cells #[.slice A n c, .slice X m k, .int .i64 sh] 25)).alloc (.cells #[.string { data := #[] }, .int .i64 0, .slice none 0 0] 42) = w0 at *
  have HP := Lib.hid (fun w' (h : Mor w0 w') => hP0.mor h)
  have HR := Lib.hid (fun w' (h : Mor w0 w') => hR0.mor h)
  have HM0 := Lib.hid hM0
  have HbR := Lib.hid (And.intro (show w.heap.size ≤ bR by omega) (And.intro (show bP < bR by omega) (show bR < w0.heap.size from hR0.lt)))
  clear hP0 hR0 hM0 hbP hbR
  refine (HCk.out _ HM0.out).mono ?_
  rintro e w1 ⟨rfl, hm⟩
  have HM1 := Lib.hid hm
  clear hm
  have hc := HP.out _ HM1.out
  have c0 := hc.cell 0
  have c1 := hc.cell 1
  have c2 := hc.cell 2
  have cl := hc.lt
  have hz := HR.out _ HM1.out
  have z0 := hz.cell 0
  have z1 := hz.cell 1
  have z2 := hz.cell 2
  have zf0 := hz.frozen 0
  have zf1 := hz.frozen 1
  have zf2 := hz.frozen 2
  have zl := hz.lt
  simp at c0 c1 c2 z0 z1 z2
  clear hc hz
  have HE9 := Lib.hid (fun w9 (h : w9 = (((w1.setCell ⟨bR, 0, none⟩ (.string { data := #[] })).setCell ⟨bR, 1, none⟩ (.int .i64 0)).setCell ⟨bR, 2, none⟩ (.slice none 0 0))) => put3 (w := w) _ _ _ (HM0.out.trans' HM1.out) (HR.out _ HM1.out) HbR.out.1 h)
  go_wp2_with fail
  obtain ⟨w9, hw9⟩ : ∃ w9, w9 = (((w1.setCell ⟨bR, 0, none⟩ (.string { data := #[] })).setCell ⟨bR, 1, none⟩ (.int .i64 0)).setCell ⟨bR, 2, none⟩ (.slice none 0 0)) := ⟨_, rfl⟩
  rw [← hw9]
  obtain ⟨⟨q0, q1, q2⟩, q3⟩ := HE9.out w9 hw9
  clear hw9
  refine bodyPost_ret (by simp [results, Try.results26, go_sem, q0, q1, q2]; try rfl) rfl ?_
  exact ⟨rfl, q3⟩

set_option maxRecDepth 100000 in
set_option maxHeartbeats 1600000 in
theorem get_bad4 (A : Option Addr) (n c : Nat) (X : Option Addr) (m k : Nat) (b : Bok) (key : ByteArray) (w : World) (hb : Bq w A n c X m k b) (hc : bookc b = 0) (hf : findE b.en key < 0) :
    Calls Try.prog 26 #[bv A n c X m k b.shut, .string key] w (GetNo w 4) := by
  have HCk := Lib.hid (fun w' (hm : Mor w w') => bcheck_any A n c X m k b w' (hb.mor hm))
  rw [hc] at HCk
  have hm60 : m ≤ 60 := by rw [← hb.length]; exact ((bookc_iff b).1 hc).len
  have HFi := Lib.hid (fun w' (h : Mor w w') => find_en A n c X m k b.shut b.en key w' (hb.es.mor h) hb.length (by omega))
  generalize findE b.en key = fi at *
  clear hc hb
  generalize b.shut = sh at *
  go_enter Try.func26, Try.ntmps26
  go_wp2_with fail
  have hP0 := (Bk.new w 25 #[.slice A n c, .slice X m k, .int .i64 sh]).alloc (.cells #[.string { data := #[] }, .int .i64 0, .slice none 0 0] 42)
  have hR0 := Bk.new (w.alloc (.cells #[.slice A n c, .slice X m k, .int .i64 sh] 25)) 42 #[.string { data := #[] }, .int .i64 0, .slice none 0 0]
  have hM0 := ((Mor.refl w).alloc (o := .cells #[.slice A n c, .slice X m k, .int .i64 sh] 25)).alloc (o := .cells #[.string { data := #[] }, .int .i64 0, .slice none 0 0] 42)
  rw [← sz1] at hR0
  obtain ⟨bP, hbP⟩ : ∃ b, b = w.heap.size := ⟨_, rfl⟩
  rw [← hbP] at hP0 hR0 ⊢
  obtain ⟨bR, hbR⟩ : ∃ b, b = bP + 1 := ⟨_, rfl⟩
  rw [← hbR] at hR0 ⊢
  generalize (w.alloc (.cells #[.slice A n c, .slice X m k, .int .i64 sh] 25)).alloc (.cells #[.string { data := #[] }, .int .i64 0, .slice none 0 0] 42) = w0 at *
  have HP := Lib.hid (fun w' (h : Mor w0 w') => hP0.mor h)
  have HR := Lib.hid (fun w' (h : Mor w0 w') => hR0.mor h)
  have HM0 := Lib.hid hM0
  have HbR := Lib.hid (And.intro (show w.heap.size ≤ bR by omega) (And.intro (show bP < bR by omega) (show bR < w0.heap.size from hR0.lt)))
  clear hP0 hR0 hM0 hbP hbR
  refine (HCk.out _ HM0.out).mono ?_
  rintro e w1 ⟨rfl, hm⟩
  have HM1 := Lib.hid hm
  clear hm
  have hc := HP.out _ HM1.out
  have c0 := hc.cell 0
  have c1 := hc.cell 1
  have c2 := hc.cell 2
  have cl := hc.lt
  have hz := HR.out _ HM1.out
  have z0 := hz.cell 0
  have z1 := hz.cell 1
  have z2 := hz.cell 2
  have zf0 := hz.frozen 0
  have zf1 := hz.frozen 1
  have zf2 := hz.frozen 2
  have zl := hz.lt
  simp at c0 c1 c2 z0 z1 z2
  clear hc hz
  go_wp2_with fail
  refine (HFi.out _ (HM0.out.trans' HM1.out)).mono ?_
  rintro e w3 ⟨rfl, hm⟩
  have HM3 := Lib.hid (HM1.out.trans' hm)
  clear hm
  clear c0 c1 c2 cl z0 z1 z2 zl zf0 zf1 zf2
  have hc := HP.out _ HM3.out
  have c0 := hc.cell 0
  have c1 := hc.cell 1
  have c2 := hc.cell 2
  have cl := hc.lt
  have hz := HR.out _ HM3.out
  have z0 := hz.cell 0
  have z1 := hz.cell 1
  have z2 := hz.cell 2
  have zf0 := hz.frozen 0
  have zf1 := hz.frozen 1
  have zf2 := hz.frozen 2
  have zl := hz.lt
  simp at c0 c1 c2 z0 z1 z2
  clear hc hz
  have HE9 := Lib.hid (fun w9 (h : w9 = (((w3.setCell ⟨bR, 0, none⟩ (.string { data := #[] })).setCell ⟨bR, 1, none⟩ (.int .i64 0)).setCell ⟨bR, 2, none⟩ (.slice none 0 0))) => put3 (w := w) _ _ _ (HM0.out.trans' HM3.out) (HR.out _ HM3.out) HbR.out.1 h)
  go_wp2_with fail
  obtain ⟨w9, hw9⟩ : ∃ w9, w9 = (((w3.setCell ⟨bR, 0, none⟩ (.string { data := #[] })).setCell ⟨bR, 1, none⟩ (.int .i64 0)).setCell ⟨bR, 2, none⟩ (.slice none 0 0)) := ⟨_, rfl⟩
  rw [← hw9]
  obtain ⟨⟨q0, q1, q2⟩, q3⟩ := HE9.out w9 hw9
  clear hw9
  refine bodyPost_ret (by simp [results, Try.results26, go_sem, q0, q1, q2]; try rfl) rfl ?_
  exact ⟨rfl, q3⟩

set_option maxRecDepth 100000 in
set_option maxHeartbeats 1600000 in
theorem get_yes (A : Option Addr) (n c : Nat) (X : Option Addr) (m k : Nat) (b : Bok) (key : ByteArray) (w : World) (hb : Bq w A n c X m k b) (hc : bookc b = 0) (i : Nat) (hi : i < m) (hf : findE b.en key = i) :
    Calls Try.prog 26 #[bv A n c X m k b.shut, .string key] w (GetYes w (ne b.en i)) := by
  have HCk := Lib.hid (fun w' (hm : Mor w w') => bcheck_any A n c X m k b w' (hb.mor hm))
  rw [hc] at HCk
  have hm60 : m ≤ 60 := by rw [← hb.length]; exact ((bookc_iff b).1 hc).len
  have HFi := Lib.hid (fun w' (h : Mor w w') => find_en A n c X m k b.shut b.en key w' (hb.es.mor h) hb.length (by omega))
  rw [hf] at HFi
  have HBq := Lib.hid hb
  have HN := Lib.hid hb.length
  have hi0 : (0 : Int) ≤ (i : Int) := by omega
  have him : (i : Int) < (m : Int) := by omega
  have HLn := Lib.hid (show (ne b.en i).ls.length ≤ 12 from (linec_ok (entc_ok (((bookc_iff b).1 hc).enc _ (by rw [ne_eq _ _ (by rw [hb.length]; exact hi)]; exact List.getElem_mem _))).2.2.2).1)
  clear hc hb hf
  generalize hky : (ne b.en i).key = ky at *
  generalize hdy : (ne b.en i).day = dy at *
  have HEq := Lib.hid (And.intro hky hdy)
  clear hky hdy
  generalize hsh : b.shut = sh at *
  clear hsh
  go_enter Try.func26, Try.ntmps26
  go_wp2_with fail
  have hP0 := (Bk.new w 25 #[.slice A n c, .slice X m k, .int .i64 sh]).alloc (.cells #[.string { data := #[] }, .int .i64 0, .slice none 0 0] 42)
  have hR0 := Bk.new (w.alloc (.cells #[.slice A n c, .slice X m k, .int .i64 sh] 25)) 42 #[.string { data := #[] }, .int .i64 0, .slice none 0 0]
  have hM0 := ((Mor.refl w).alloc (o := .cells #[.slice A n c, .slice X m k, .int .i64 sh] 25)).alloc (o := .cells #[.string { data := #[] }, .int .i64 0, .slice none 0 0] 42)
  rw [← sz1] at hR0
  obtain ⟨bP, hbP⟩ : ∃ b, b = w.heap.size := ⟨_, rfl⟩
  rw [← hbP] at hP0 hR0 ⊢
  obtain ⟨bR, hbR⟩ : ∃ b, b = bP + 1 := ⟨_, rfl⟩
  rw [← hbR] at hR0 ⊢
  generalize (w.alloc (.cells #[.slice A n c, .slice X m k, .int .i64 sh] 25)).alloc (.cells #[.string { data := #[] }, .int .i64 0, .slice none 0 0] 42) = w0 at *
  have HP := Lib.hid (fun w' (h : Mor w0 w') => hP0.mor h)
  have HR := Lib.hid (fun w' (h : Mor w0 w') => hR0.mor h)
  have HM0 := Lib.hid hM0
  have HbR := Lib.hid (And.intro (show w.heap.size ≤ bR by omega) (And.intro (show bP < bR by omega) (show bR < w0.heap.size from hR0.lt)))
  clear hP0 hR0 hM0 hbP hbR
  refine (HCk.out _ HM0.out).mono ?_
  rintro e w1 ⟨rfl, hm⟩
  have HM1 := Lib.hid hm
  clear hm
  have hc := HP.out _ HM1.out
  have c0 := hc.cell 0
  have c1 := hc.cell 1
  have c2 := hc.cell 2
  have cl := hc.lt
  have hz := HR.out _ HM1.out
  have z0 := hz.cell 0
  have z1 := hz.cell 1
  have z2 := hz.cell 2
  have zf0 := hz.frozen 0
  have zf1 := hz.frozen 1
  have zf2 := hz.frozen 2
  have zl := hz.lt
  simp at c0 c1 c2 z0 z1 z2
  clear hc hz
  go_wp2_with fail
  refine (HFi.out _ (HM0.out.trans' HM1.out)).mono ?_
  rintro e w3 ⟨rfl, hm⟩
  have HM3 := Lib.hid (HM1.out.trans' hm)
  clear hm
  clear c0 c1 c2 cl z0 z1 z2 zl zf0 zf1 zf2
  have hc := HP.out _ HM3.out
  have c0 := hc.cell 0
  have c1 := hc.cell 1
  have c2 := hc.cell 2
  have cl := hc.lt
  have hz := HR.out _ HM3.out
  have z0 := hz.cell 0
  have z1 := hz.cell 1
  have z2 := hz.cell 2
  have zf0 := hz.frozen 0
  have zf1 := hz.frozen 1
  have zf2 := hz.frozen 2
  have zl := hz.lt
  simp at c0 c1 c2 z0 z1 z2
  clear hc hz
  obtain ⟨x, B, p, q, hX, hxb, hks, d0, d1, d2, hlq⟩ := (HBq.out.es.mor (HM0.out.trans' HM3.out)).at_ i (by rw [HN.out]; exact hi)
  rw [HEq.out.1] at d0 hks
  rw [HEq.out.2] at d1
  subst hX
  have HKs := Lib.hid hks
  have HQ := Lib.hid hlq
  have HCl := Lib.hid (fun w' (h : Mor w3 w') => show Calls Try.prog 50 #[.slice B p q] w' fun e w2 => ∃ A2 c2, e = .returned (.slice A2 p c2) ∧ w2.ownsRow w'.heap.size 45 2 (.slice A2 p c2) p (flat pc (ne b.en i).ls) ∧ Mor w' w2 from
    (clone_lq B p q (ne b.en i).ls w' (hlq.mor h) (by rw [← hlq.length]; have := HLn.out; omega)).mono (by
      rintro e w2 ⟨v, rfl, ho, hm2⟩
      obtain ⟨A', c', rfl, _, _, _⟩ := own_shape ho
      exact ⟨A', c', rfl, ho, hm2⟩))
  clear hlq hks
  go_wp2_with fail
  refine (HCl.out _ (Mor.refl _).alloc).mono ?_
  rintro e w6 ⟨A2, c2', rfl, hrow, hm⟩
  have hbE := (Bk.new w3 42 #[.string ky, .int .i64 dy, .slice B p q]).mor hm
  obtain ⟨bE, hbE2⟩ : ∃ b, b = w3.heap.size := ⟨_, rfl⟩
  rw [← hbE2] at hbE ⊢
  have HSz := Lib.hid (show w.heap.size ≤ bE ∧ bR < bE from ⟨by rw [hbE2]; exact (HM0.out.trans' HM3.out).below.size, by rw [hbE2]; exact (HR.out _ HM3.out).lt⟩)
  have HM6 := Lib.hid ((HM3.out.alloc).trans' hm)
  have HRow := Lib.hid hrow
  have HSz2 := Lib.hid (show bE < (w3.alloc (.cells #[.string ky, .int .i64 dy, .slice B p q] 42)).heap.size by rw [← sz1]; omega)
  have HBE := Lib.hid hbE
  clear hrow hm hbE2 d0 d1 d2 hxb
  clear c0 c1 c2 cl z0 z1 z2 zl zf0 zf1 zf2
  have hc := HP.out _ HM6.out
  have c0 := hc.cell 0
  have c1 := hc.cell 1
  have c2 := hc.cell 2
  have cl := hc.lt
  have hz := HR.out _ HM6.out
  have z0 := hz.cell 0
  have z1 := hz.cell 1
  have z2 := hz.cell 2
  have zf0 := hz.frozen 0
  have zf1 := hz.frozen 1
  have zf2 := hz.frozen 2
  have zl := hz.lt
  simp at c0 c1 c2 z0 z1 z2
  clear hc hz
  have e0 := hbE.cell 0
  have e1 := hbE.cell 1
  have e2 := hbE.cell 2
  have ef := hbE.frozen 2
  have el := hbE.lt
  simp at e0 e1 e2
  have hne : bE ≠ bR := by have := HSz.out; omega
  have hne' : bR ≠ bE := fun e => hne e.symm
  clear hbE
  obtain ⟨w7, hw7⟩ : ∃ w7, w7 = w6.setCell ⟨bE, 2, none⟩ (.slice A2 p c2') := ⟨_, rfl⟩
  have HR7 := Lib.hid (show Bk w7 bR 42 #[.string { data := #[] }, .int .i64 0, .slice none 0 0] by rw [hw7]; exact (HR.out _ HM6.out).set_other _ _ _ hne')
  have HM7 := Lib.hid (show Mor w w7 by rw [hw7]; exact Mor.of_below ((HM0.out.trans' HM6.out).below.setCell (p := ⟨bE, 2, none⟩) HSz.out.1 _))
  have HRow7 := Lib.hid (show w7.ownsRow _ 45 2 (.slice A2 p c2') p (flat pc (ne b.en i).ls) by rw [hw7]; exact own_set HRow.out HSz2.out)
  have HE9 := Lib.hid (fun w9 (h : w9 = (((w7.setCell ⟨bR, 0, none⟩ (.string ky)).setCell ⟨bR, 1, none⟩ (.int .i64 dy)).setCell ⟨bR, 2, none⟩ (.slice A2 p c2'))) => put3 (w := w) _ _ _ HM7.out HR7.out HbR.out.1 h)
  have HO9 := Lib.hid (fun w9 (h : w9 = (((w7.setCell ⟨bR, 0, none⟩ (.string ky)).setCell ⟨bR, 1, none⟩ (.int .i64 dy)).setCell ⟨bR, 2, none⟩ (.slice A2 p c2'))) => show OwnE w9 w.heap.size ⟨ky, dy, A2, p, c2'⟩ (ne b.en i) by
    have hlt : bR < (w3.alloc (.cells #[.string ky, .int .i64 dy, .slice B p q] 42)).heap.size := by have := HSz.out; have := HSz2.out; omega
    rw [h]
    exact ⟨HEq.out.1.symm, HEq.out.2.symm, own_base (own_set (own_set (own_set HRow7.out hlt) hlt) hlt) (Nat.le_of_lt (Nat.lt_of_le_of_lt HSz.out.1 HSz2.out)), HQ.out.length, by rw [HEq.out.1]; exact HKs.out, HQ.out.str⟩)
  rw [hw7] at HE9 HO9
  clear hw7
  go_wp2_with fail
  obtain ⟨w9, hw9⟩ : ∃ w9, w9 = ((((w6.setCell ⟨bE, 2, none⟩ (.slice A2 p c2')).setCell ⟨bR, 0, none⟩ (.string ky)).setCell ⟨bR, 1, none⟩ (.int .i64 dy)).setCell ⟨bR, 2, none⟩ (.slice A2 p c2')) := ⟨_, rfl⟩
  rw [← hw9]
  obtain ⟨⟨q0, q1, q2⟩, q3⟩ := HE9.out w9 hw9
  have HW9 := Lib.hid (HO9.out w9 hw9)
  clear hw9
  refine bodyPost_ret (by simp [results, Try.results26, go_sem, q0, q1, q2]; try rfl) rfl ?_
  rw [← HEq.out.1, ← HEq.out.2]
  rw [← HEq.out.1, ← HEq.out.2] at HW9
  exact ⟨A2, p, c2', by rw [HEq.out.1, HEq.out.2], HW9.out, q3⟩

end Go.Proofs.Ytpgefclnplmlkaa
