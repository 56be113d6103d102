/- The walk of book.Post (printed by gpost.py). -/
import Derived.Test.YtpgefclnplmlkaaBookG
import Derived.Test.YtpgefclnplmlkaaBookD
import Derived.Deep.RegionHeld3
import Derived.BigRegion
namespace Go.Proofs.Ytpgefclnplmlkaa
open Go.ChangeShapes Go.WideShapes Go.ChangeAt Go.RowKit Go.PlainAid
set_option linter.unusedVariables false

theorem acc_len {ac : List Ln} (h : acc ac = 0) : ac.length ≤ 24 := by
  unfold acc at h; split at h <;> omega
theorem nil_bv : (Value.agg #[.slice none 0 0, .slice none 0 0, .int .i64 0]) = bv none 0 0 none 0 0 0 := rfl
def PostNo (w : World) (c : Int) (e : Ending) (w' : World) : Prop := e = .returned (.tuple #[bv none 0 0 none 0 0 0, .int .i64 c]) ∧ Mor w w'
def PostYes (w : World) (b : Bok) (e : Ending) (w' : World) : Prop :=
  ∃ A n c X m k, e = .returned (.tuple #[bv A n c X m k b.shut, .int .i64 0]) ∧ OwnB w' w.heap.size (.slice A n c) (.slice X m k) n m b ∧ Mor w w'

set_option maxRecDepth 100000 in
set_option maxHeartbeats 1600000 in
theorem post_bad1 (A : Option Addr) (n c : Nat) (X : Option Addr) (m k : Nat) (b : Bok) (x : En) (B : Option Addr) (p q : Nat) (w : World) (hb : Bq w A n c X m k b) (hx : Lq w B p q x.ls) (hks : x.key.size ≤ maxLen) (hc : bookc b ≠ 0) :
    Calls Try.prog 22 #[bv A n c X m k b.shut, .agg #[.string x.key, .int .i64 x.day, .slice B p q]] w (PostNo w (bookc b)) := by
  have HBq := Lib.hid hb
  have HXq := Lib.hid hx
  have HKs := Lib.hid hks
  have HCk := Lib.hid (fun w' (h : Mor w w') => bcheck_any A n c X m k b w' (hb.mor h))
  have HEk := Lib.hid (fun w' (h : Mor w w') => check_any x.key x.day B p q x.ls w' hks (hx.si.mor h) hx.length hx.le (Nat.le_trans hx.le hx.max) hx.str)
  rw [show entc x.key x.day x.ls = enc x from rfl] at HEk
  have HF := Lib.hid (show bookc b = bookc b from rfl)
  generalize bookc b = r at *
  have hr : (r != 0) = true := by simpa using hc
  clear hc
  generalize hky : x.key = ky at *
  generalize hdy : x.day = dy at *
  generalize hsh : b.shut = sh at *
  have HEq := Lib.hid (And.intro hky (And.intro hdy hsh))
  clear hb hx hks hky hdy hsh
  go_enter Try.func22, Try.ntmps22
  go_wp2_with fail
  have hP0 := ((Bk.new w 25 #[.slice A n c, .slice X m k, .int .i64 sh]).alloc (.cells #[.string ky, .int .i64 dy, .slice B p q] 42)).alloc (.cells #[.slice none 0 0, .slice none 0 0, .int .i64 0] 25)
  have hX0 := (Bk.new (w.alloc (.cells #[.slice A n c, .slice X m k, .int .i64 sh] 25)) 42 #[.string ky, .int .i64 dy, .slice B p q]).alloc (.cells #[.slice none 0 0, .slice none 0 0, .int .i64 0] 25)
  have hR0 := Bk.new ((w.alloc (.cells #[.slice A n c, .slice X m k, .int .i64 sh] 25)).alloc (.cells #[.string ky, .int .i64 dy, .slice B p q] 42)) 25 #[.slice none 0 0, .slice none 0 0, .int .i64 0]
  have hM0 := (((Mor.refl w).alloc (o := .cells #[.slice A n c, .slice X m k, .int .i64 sh] 25)).alloc (o := .cells #[.string ky, .int .i64 dy, .slice B p q] 42)).alloc (o := .cells #[.slice none 0 0, .slice none 0 0, .int .i64 0] 25)
  rw [← sz1, ← sz1] at hR0
  rw [← sz1] at hX0
  obtain ⟨bP, hbP⟩ : ∃ b, b = w.heap.size := ⟨_, rfl⟩
  rw [← hbP] at hP0 hX0 hR0 ⊢
  obtain ⟨bX, hbX⟩ : ∃ b, b = bP + 1 := ⟨_, rfl⟩
  rw [← hbX] at hX0 hR0 ⊢
  obtain ⟨bR, hbR⟩ : ∃ b, b = bX + 1 := ⟨_, rfl⟩
  rw [← hbR] at hR0 ⊢
  generalize ((w.alloc (.cells #[.slice A n c, .slice X m k, .int .i64 sh] 25)).alloc (.cells #[.string ky, .int .i64 dy, .slice B p q] 42)).alloc (.cells #[.slice none 0 0, .slice none 0 0, .int .i64 0] 25) = w0 at *
  have HP := Lib.hid (fun w' (h : Mor w0 w') => hP0.mor h)
  have HX := Lib.hid (fun w' (h : Mor w0 w') => hX0.mor h)
  have HR := Lib.hid (fun w' (h : Mor w0 w') => hR0.mor h)
  have HM0 := Lib.hid hM0
  have HbR := Lib.hid (And.intro (show w.heap.size ≤ bR by omega) (And.intro (show w.heap.size ≤ bX by omega) (And.intro (show bX < bR by omega) (And.intro (show bP < bX by omega) (show bR < w0.heap.size from hR0.lt)))))
  clear hP0 hX0 hR0 hM0 hbP hbX hbR
  refine (HCk.out _ HM0.out).mono ?_
  rintro e w1 ⟨rfl, hm⟩
  have HM1 := Lib.hid hm
  clear hm
  have hc := HP.out _ HM1.out
  have c0 := hc.cell 0
  have c1 := hc.cell 1
  have c2 := hc.cell 2
  have cl := hc.lt
  have he := HX.out _ HM1.out
  have e0 := he.cell 0
  have e1 := he.cell 1
  have e2 := he.cell 2
  have ef0 := he.frozen 0
  have ef1 := he.frozen 1
  have ef2 := he.frozen 2
  have el := he.lt
  have hz := HR.out _ HM1.out
  have z0 := hz.cell 0
  have z1 := hz.cell 1
  have z2 := hz.cell 2
  have zf0 := hz.frozen 0
  have zf1 := hz.frozen 1
  have zf2 := hz.frozen 2
  have zl := hz.lt
  simp at c0 c1 c2 e0 e1 e2 z0 z1 z2
  clear hc he hz
  have HE9 := Lib.hid (fun w9 (h : w9 = (((w1.setCell ⟨bR, 0, none⟩ (.slice none 0 0)).setCell ⟨bR, 1, none⟩ (.slice none 0 0)).setCell ⟨bR, 2, none⟩ (.int .i64 0))) => put3 (w := w) _ _ _ (HM0.out.trans' HM1.out) (HR.out _ HM1.out) HbR.out.1 h)
  go_wp2_with fail
  obtain ⟨w9, hw9⟩ : ∃ w9, w9 = (((w1.setCell ⟨bR, 0, none⟩ (.slice none 0 0)).setCell ⟨bR, 1, none⟩ (.slice none 0 0)).setCell ⟨bR, 2, none⟩ (.int .i64 0)) := ⟨_, rfl⟩
  rw [← hw9]
  obtain ⟨⟨q0, q1, q2⟩, q3⟩ := HE9.out w9 hw9
  clear hw9
  refine bodyPost_ret (by simp [results, Try.results22, go_sem, q0, q1, q2]; try rfl) rfl ?_
  exact ⟨rfl, q3⟩

set_option maxRecDepth 100000 in
set_option maxHeartbeats 1600000 in
theorem post_bad2 (A : Option Addr) (n c : Nat) (X : Option Addr) (m k : Nat) (b : Bok) (x : En) (B : Option Addr) (p q : Nat) (w : World) (hb : Bq w A n c X m k b) (hx : Lq w B p q x.ls) (hks : x.key.size ≤ maxLen) (hc : bookc b = 0) (he : enc x ≠ 0) :
    Calls Try.prog 22 #[bv A n c X m k b.shut, .agg #[.string x.key, .int .i64 x.day, .slice B p q]] w (PostNo w (enc x)) := by
  have HBq := Lib.hid hb
  have HXq := Lib.hid hx
  have HKs := Lib.hid hks
  have HCk := Lib.hid (fun w' (h : Mor w w') => bcheck_any A n c X m k b w' (hb.mor h))
  have HEk := Lib.hid (fun w' (h : Mor w w') => check_any x.key x.day B p q x.ls w' hks (hx.si.mor h) hx.length hx.le (Nat.le_trans hx.le hx.max) hx.str)
  rw [show entc x.key x.day x.ls = enc x from rfl] at HEk
  rw [hc] at HCk
  have HF := Lib.hid (show enc x = enc x from rfl)
  generalize enc x = r at *
  have hr : (r != 0) = true := by simpa using he
  clear hc he
  generalize hky : x.key = ky at *
  generalize hdy : x.day = dy at *
  generalize hsh : b.shut = sh at *
  have HEq := Lib.hid (And.intro hky (And.intro hdy hsh))
  clear hb hx hks hky hdy hsh
  go_enter Try.func22, Try.ntmps22
  go_wp2_with fail
  have hP0 := ((Bk.new w 25 #[.slice A n c, .slice X m k, .int .i64 sh]).alloc (.cells #[.string ky, .int .i64 dy, .slice B p q] 42)).alloc (.cells #[.slice none 0 0, .slice none 0 0, .int .i64 0] 25)
  have hX0 := (Bk.new (w.alloc (.cells #[.slice A n c, .slice X m k, .int .i64 sh] 25)) 42 #[.string ky, .int .i64 dy, .slice B p q]).alloc (.cells #[.slice none 0 0, .slice none 0 0, .int .i64 0] 25)
  have hR0 := Bk.new ((w.alloc (.cells #[.slice A n c, .slice X m k, .int .i64 sh] 25)).alloc (.cells #[.string ky, .int .i64 dy, .slice B p q] 42)) 25 #[.slice none 0 0, .slice none 0 0, .int .i64 0]
  have hM0 := (((Mor.refl w).alloc (o := .cells #[.slice A n c, .slice X m k, .int .i64 sh] 25)).alloc (o := .cells #[.string ky, .int .i64 dy, .slice B p q] 42)).alloc (o := .cells #[.slice none 0 0, .slice none 0 0, .int .i64 0] 25)
  rw [← sz1, ← sz1] at hR0
  rw [← sz1] at hX0
  obtain ⟨bP, hbP⟩ : ∃ b, b = w.heap.size := ⟨_, rfl⟩
  rw [← hbP] at hP0 hX0 hR0 ⊢
  obtain ⟨bX, hbX⟩ : ∃ b, b = bP + 1 := ⟨_, rfl⟩
  rw [← hbX] at hX0 hR0 ⊢
  obtain ⟨bR, hbR⟩ : ∃ b, b = bX + 1 := ⟨_, rfl⟩
  rw [← hbR] at hR0 ⊢
  generalize ((w.alloc (.cells #[.slice A n c, .slice X m k, .int .i64 sh] 25)).alloc (.cells #[.string ky, .int .i64 dy, .slice B p q] 42)).alloc (.cells #[.slice none 0 0, .slice none 0 0, .int .i64 0] 25) = w0 at *
  have HP := Lib.hid (fun w' (h : Mor w0 w') => hP0.mor h)
  have HX := Lib.hid (fun w' (h : Mor w0 w') => hX0.mor h)
  have HR := Lib.hid (fun w' (h : Mor w0 w') => hR0.mor h)
  have HM0 := Lib.hid hM0
  have HbR := Lib.hid (And.intro (show w.heap.size ≤ bR by omega) (And.intro (show w.heap.size ≤ bX by omega) (And.intro (show bX < bR by omega) (And.intro (show bP < bX by omega) (show bR < w0.heap.size from hR0.lt)))))
  clear hP0 hX0 hR0 hM0 hbP hbX hbR
  refine (HCk.out _ HM0.out).mono ?_
  rintro e w1 ⟨rfl, hm⟩
  have HM1 := Lib.hid hm
  clear hm
  have hc := HP.out _ HM1.out
  have c0 := hc.cell 0
  have c1 := hc.cell 1
  have c2 := hc.cell 2
  have cl := hc.lt
  have he := HX.out _ HM1.out
  have e0 := he.cell 0
  have e1 := he.cell 1
  have e2 := he.cell 2
  have ef0 := he.frozen 0
  have ef1 := he.frozen 1
  have ef2 := he.frozen 2
  have el := he.lt
  have hz := HR.out _ HM1.out
  have z0 := hz.cell 0
  have z1 := hz.cell 1
  have z2 := hz.cell 2
  have zf0 := hz.frozen 0
  have zf1 := hz.frozen 1
  have zf2 := hz.frozen 2
  have zl := hz.lt
  simp at c0 c1 c2 e0 e1 e2 z0 z1 z2
  clear hc he hz
  go_wp2_with fail
  refine (HEk.out _ (HM0.out.trans' HM1.out)).mono ?_
  rintro e w2 ⟨rfl, hm⟩
  have HM2 := Lib.hid (HM1.out.trans' hm)
  clear hm
  clear c0 c1 c2 cl e0 e1 e2 ef0 ef1 ef2 el z0 z1 z2 zf0 zf1 zf2 zl
  have hc := HP.out _ HM2.out
  have c0 := hc.cell 0
  have c1 := hc.cell 1
  have c2 := hc.cell 2
  have cl := hc.lt
  have he := HX.out _ HM2.out
  have e0 := he.cell 0
  have e1 := he.cell 1
  have e2 := he.cell 2
  have ef0 := he.frozen 0
  have ef1 := he.frozen 1
  have ef2 := he.frozen 2
  have el := he.lt
  have hz := HR.out _ HM2.out
  have z0 := hz.cell 0
  have z1 := hz.cell 1
  have z2 := hz.cell 2
  have zf0 := hz.frozen 0
  have zf1 := hz.frozen 1
  have zf2 := hz.frozen 2
  have zl := hz.lt
  simp at c0 c1 c2 e0 e1 e2 z0 z1 z2
  clear hc he hz
  have HE9 := Lib.hid (fun w9 (h : w9 = (((w2.setCell ⟨bR, 0, none⟩ (.slice none 0 0)).setCell ⟨bR, 1, none⟩ (.slice none 0 0)).setCell ⟨bR, 2, none⟩ (.int .i64 0))) => put3 (w := w) _ _ _ (HM0.out.trans' HM2.out) (HR.out _ HM2.out) HbR.out.1 h)
  go_wp2_with fail
  obtain ⟨w9, hw9⟩ : ∃ w9, w9 = (((w2.setCell ⟨bR, 0, none⟩ (.slice none 0 0)).setCell ⟨bR, 1, none⟩ (.slice none 0 0)).setCell ⟨bR, 2, none⟩ (.int .i64 0)) := ⟨_, rfl⟩
  rw [← hw9]
  obtain ⟨⟨q0, q1, q2⟩, q3⟩ := HE9.out w9 hw9
  clear hw9
  refine bodyPost_ret (by simp [results, Try.results22, go_sem, q0, q1, q2]; try rfl) rfl ?_
  exact ⟨rfl, q3⟩
end Go.Proofs.Ytpgefclnplmlkaa
