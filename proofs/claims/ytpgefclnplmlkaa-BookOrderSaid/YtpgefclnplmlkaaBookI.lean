/- The walk of book.Post (printed by gpost.py). -/
import Derived.Test.YtpgefclnplmlkaaBookH
namespace Go.Proofs.Ytpgefclnplmlkaa
open Go.ChangeShapes Go.WideShapes Go.ChangeAt Go.RowKit Go.PlainAid
set_option linter.unusedVariables false


set_option maxRecDepth 100000 in
set_option maxHeartbeats 1600000 in
theorem post_bad4 (A : Option Addr) (n c : Nat) (X : Option Addr) (m k : Nat) (b : Bok) (x : En) (B : Option Addr) (p q : Nat) (w : World) (hb : Bq w A n c X m k b) (hx : Lq w B p q x.ls) (hks : x.key.size ≤ maxLen) (hc : bookc b = 0) (he : enc x = 0) (hf : ¬ 0 ≤ findE b.en x.key) (hkn : knownB b.ac x = false) :
    Calls Try.prog 22 #[bv A n c X m k b.shut, .agg #[.string x.key, .int .i64 x.day, .slice B p q]] w (PostNo w 4) := by
  have HBq := Lib.hid hb
  have HXq := Lib.hid hx
  have HKs := Lib.hid hks
  have HCk := Lib.hid (fun w' (h : Mor w w') => bcheck_any A n c X m k b w' (hb.mor h))
  have HEk := Lib.hid (fun w' (h : Mor w w') => check_any x.key x.day B p q x.ls w' hks (hx.si.mor h) hx.length hx.le (Nat.le_trans hx.le hx.max) hx.str)
  rw [show entc x.key x.day x.ls = enc x from rfl] at HEk
  rw [hc] at HCk
  rw [he] at HEk
  have HBO := Lib.hid ((bookc_iff b).1 hc)
  have HEO := Lib.hid he
  have hm60 : m ≤ 60 := by rw [← hb.length]; exact ((bookc_iff b).1 hc).len
  have hn24 : n ≤ 24 := by rw [← hb.ac.length]; exact (acc_len ((bookc_iff b).1 hc).ac)
  have hp12 : p ≤ 12 := by rw [← hx.length]; exact (linec_ok (entc_ok he).2.2.2).1
  have HFi := Lib.hid (fun w' (h : Mor w w') => find_en A n c X m k b.shut b.en x.key w' (hb.es.mor h) hb.length (by omega))
  have HKn := Lib.hid (fun w' (h : Mor w w') => known_any A n c X m k b.shut B p q b.ac x w' (hb.ac.si.mor h) hb.ac.length (by omega) (hx.si.mor h) hx.length (by omega))
  have HCp := Lib.hid (fun w' (h : Mor w w') => copied_any A n c X m k b w' (hb.mor h) (by omega) (by omega) (fun y hy => by have := (linec_ok (entc_ok (((bookc_iff b).1 hc).enc y hy)).2.2.2).1; omega))
  rw [hkn] at HKn
  generalize findE b.en x.key = fi at *
  clear hc he hkn
  generalize hky : x.key = ky at *
  generalize hdy : x.day = dy at *
  generalize hsh : b.shut = sh at *
  have HEq := Lib.hid (And.intro hky (And.intro hdy hsh))
  clear hb hx hks hky hdy hsh
  go_enter Try.func22, Try.ntmps22
  go_wp2_with fail
  have hP0 := ((Bk.new w 25 #[.slice A n c, .slice X m k, .int .i64 sh]).alloc (.cells #[.string ky, .int .i64 dy, .slice B p q] 42)).alloc (.cells #[.slice none 0 0, .slice none 0 0, .int .i64 0] 25)
  have hX0 := (Bk.new (w.alloc (.cells #[.slice A n c, .slice X m k, .int .i64 sh] 25)) 42 #[.string ky, .int .i64 dy, .slice B p q]).alloc (.cells #[.slice none 0 0, .slice none 0 0, .int .i64 0] 25)
  have hR0 := Bk.new ((w.alloc (.cells #[.slice A n c, .slice X m k, .int .i64 sh] 25)).alloc (.cells #[.string ky, .int .i64 dy, .slice B p q] 42)) 25 #[.slice none 0 0, .slice none 0 0, .int .i64 0]
  have hM0 := (((Mor.refl w).alloc (o := .cells #[.slice A n c, .slice X m k, .int .i64 sh] 25)).alloc (o := .cells #[.string ky, .int .i64 dy, .slice B p q] 42)).alloc (o := .cells #[.slice none 0 0, .slice none 0 0, .int .i64 0] 25)
  rw [← sz1, ← sz1] at hR0
  rw [← sz1] at hX0
  obtain ⟨bP, hbP⟩ : ∃ b, b = w.heap.size := ⟨_, rfl⟩
  rw [← hbP] at hP0 hX0 hR0 ⊢
  obtain ⟨bX, hbX⟩ : ∃ b, b = bP + 1 := ⟨_, rfl⟩
  rw [← hbX] at hX0 hR0 ⊢
  obtain ⟨bR, hbR⟩ : ∃ b, b = bX + 1 := ⟨_, rfl⟩
  rw [← hbR] at hR0 ⊢
  generalize ((w.alloc (.cells #[.slice A n c, .slice X m k, .int .i64 sh] 25)).alloc (.cells #[.string ky, .int .i64 dy, .slice B p q] 42)).alloc (.cells #[.slice none 0 0, .slice none 0 0, .int .i64 0] 25) = w0 at *
  have HP := Lib.hid (fun w' (h : Mor w0 w') => hP0.mor h)
  have HX := Lib.hid (fun w' (h : Mor w0 w') => hX0.mor h)
  have HR := Lib.hid (fun w' (h : Mor w0 w') => hR0.mor h)
  have HM0 := Lib.hid hM0
  have HbR := Lib.hid (And.intro (show w.heap.size ≤ bR by omega) (And.intro (show w.heap.size ≤ bX by omega) (And.intro (show bX < bR by omega) (And.intro (show bP < bX by omega) (show bR < w0.heap.size from hR0.lt)))))
  clear hP0 hX0 hR0 hM0 hbP hbX hbR
  refine (HCk.out _ HM0.out).mono ?_
  rintro e w1 ⟨rfl, hm⟩
  have HM1 := Lib.hid hm
  clear hm
  have hc := HP.out _ HM1.out
  have c0 := hc.cell 0
  have c1 := hc.cell 1
  have c2 := hc.cell 2
  have cl := hc.lt
  have he := HX.out _ HM1.out
  have e0 := he.cell 0
  have e1 := he.cell 1
  have e2 := he.cell 2
  have ef0 := he.frozen 0
  have ef1 := he.frozen 1
  have ef2 := he.frozen 2
  have el := he.lt
  have hz := HR.out _ HM1.out
  have z0 := hz.cell 0
  have z1 := hz.cell 1
  have z2 := hz.cell 2
  have zf0 := hz.frozen 0
  have zf1 := hz.frozen 1
  have zf2 := hz.frozen 2
  have zl := hz.lt
  simp at c0 c1 c2 e0 e1 e2 z0 z1 z2
  clear hc he hz
  go_wp2_with fail
  refine (HEk.out _ (HM0.out.trans' HM1.out)).mono ?_
  rintro e w2 ⟨rfl, hm⟩
  have HM2 := Lib.hid (HM1.out.trans' hm)
  clear hm
  clear c0 c1 c2 cl e0 e1 e2 ef0 ef1 ef2 el z0 z1 z2 zf0 zf1 zf2 zl
  have hc := HP.out _ HM2.out
  have c0 := hc.cell 0
  have c1 := hc.cell 1
  have c2 := hc.cell 2
  have cl := hc.lt
  have he := HX.out _ HM2.out
  have e0 := he.cell 0
  have e1 := he.cell 1
  have e2 := he.cell 2
  have ef0 := he.frozen 0
  have ef1 := he.frozen 1
  have ef2 := he.frozen 2
  have el := he.lt
  have hz := HR.out _ HM2.out
  have z0 := hz.cell 0
  have z1 := hz.cell 1
  have z2 := hz.cell 2
  have zf0 := hz.frozen 0
  have zf1 := hz.frozen 1
  have zf2 := hz.frozen 2
  have zl := hz.lt
  simp at c0 c1 c2 e0 e1 e2 z0 z1 z2
  clear hc he hz
  go_wp2_with fail
  refine (HFi.out _ (HM0.out.trans' HM2.out)).mono ?_
  rintro e w3 ⟨rfl, hm⟩
  have HM3 := Lib.hid (HM2.out.trans' hm)
  clear hm
  clear c0 c1 c2 cl e0 e1 e2 ef0 ef1 ef2 el z0 z1 z2 zf0 zf1 zf2 zl
  have hc := HP.out _ HM3.out
  have c0 := hc.cell 0
  have c1 := hc.cell 1
  have c2 := hc.cell 2
  have cl := hc.lt
  have he := HX.out _ HM3.out
  have e0 := he.cell 0
  have e1 := he.cell 1
  have e2 := he.cell 2
  have ef0 := he.frozen 0
  have ef1 := he.frozen 1
  have ef2 := he.frozen 2
  have el := he.lt
  have hz := HR.out _ HM3.out
  have z0 := hz.cell 0
  have z1 := hz.cell 1
  have z2 := hz.cell 2
  have zf0 := hz.frozen 0
  have zf1 := hz.frozen 1
  have zf2 := hz.frozen 2
  have zl := hz.lt
  simp at c0 c1 c2 e0 e1 e2 z0 z1 z2
  clear hc he hz
  go_wp2_with fail
  refine (HKn.out _ (HM0.out.trans' HM3.out)).mono ?_
  rintro e w4 ⟨rfl, hm⟩
  have HM4 := Lib.hid (HM3.out.trans' hm)
  clear hm
  clear c0 c1 c2 cl e0 e1 e2 ef0 ef1 ef2 el z0 z1 z2 zf0 zf1 zf2 zl
  have hc := HP.out _ HM4.out
  have c0 := hc.cell 0
  have c1 := hc.cell 1
  have c2 := hc.cell 2
  have cl := hc.lt
  have he := HX.out _ HM4.out
  have e0 := he.cell 0
  have e1 := he.cell 1
  have e2 := he.cell 2
  have ef0 := he.frozen 0
  have ef1 := he.frozen 1
  have ef2 := he.frozen 2
  have el := he.lt
  have hz := HR.out _ HM4.out
  have z0 := hz.cell 0
  have z1 := hz.cell 1
  have z2 := hz.cell 2
  have zf0 := hz.frozen 0
  have zf1 := hz.frozen 1
  have zf2 := hz.frozen 2
  have zl := hz.lt
  simp at c0 c1 c2 e0 e1 e2 z0 z1 z2
  clear hc he hz
  have HE9 := Lib.hid (fun w9 (h : w9 = (((w4.setCell ⟨bR, 0, none⟩ (.slice none 0 0)).setCell ⟨bR, 1, none⟩ (.slice none 0 0)).setCell ⟨bR, 2, none⟩ (.int .i64 0))) => put3 (w := w) _ _ _ (HM0.out.trans' HM4.out) (HR.out _ HM4.out) HbR.out.1 h)
  go_wp2_with fail
  obtain ⟨w9, hw9⟩ : ∃ w9, w9 = (((w4.setCell ⟨bR, 0, none⟩ (.slice none 0 0)).setCell ⟨bR, 1, none⟩ (.slice none 0 0)).setCell ⟨bR, 2, none⟩ (.int .i64 0)) := ⟨_, rfl⟩
  rw [← hw9]
  obtain ⟨⟨q0, q1, q2⟩, q3⟩ := HE9.out w9 hw9
  clear hw9
  refine bodyPost_ret (by simp [results, Try.results22, go_sem, q0, q1, q2]; try rfl) rfl ?_
  exact ⟨rfl, q3⟩

set_option maxRecDepth 100000 in
set_option maxHeartbeats 1600000 in
theorem post_bad9 (A : Option Addr) (n c : Nat) (X : Option Addr) (m k : Nat) (b : Bok) (x : En) (B : Option Addr) (p q : Nat) (w : World) (hb : Bq w A n c X m k b) (hx : Lq w B p q x.ls) (hks : x.key.size ≤ maxLen) (hc : bookc b = 0) (he : enc x = 0) (hf : ¬ 0 ≤ findE b.en x.key) (hkn : knownB b.ac x = true) (hs : x.day ≤ b.shut) :
    Calls Try.prog 22 #[bv A n c X m k b.shut, .agg #[.string x.key, .int .i64 x.day, .slice B p q]] w (PostNo w 9) := by
  have HBq := Lib.hid hb
  have HXq := Lib.hid hx
  have HKs := Lib.hid hks
  have HCk := Lib.hid (fun w' (h : Mor w w') => bcheck_any A n c X m k b w' (hb.mor h))
  have HEk := Lib.hid (fun w' (h : Mor w w') => check_any x.key x.day B p q x.ls w' hks (hx.si.mor h) hx.length hx.le (Nat.le_trans hx.le hx.max) hx.str)
  rw [show entc x.key x.day x.ls = enc x from rfl] at HEk
  rw [hc] at HCk
  rw [he] at HEk
  have HBO := Lib.hid ((bookc_iff b).1 hc)
  have HEO := Lib.hid he
  have hm60 : m ≤ 60 := by rw [← hb.length]; exact ((bookc_iff b).1 hc).len
  have hn24 : n ≤ 24 := by rw [← hb.ac.length]; exact (acc_len ((bookc_iff b).1 hc).ac)
  have hp12 : p ≤ 12 := by rw [← hx.length]; exact (linec_ok (entc_ok he).2.2.2).1
  have HFi := Lib.hid (fun w' (h : Mor w w') => find_en A n c X m k b.shut b.en x.key w' (hb.es.mor h) hb.length (by omega))
  have HKn := Lib.hid (fun w' (h : Mor w w') => known_any A n c X m k b.shut B p q b.ac x w' (hb.ac.si.mor h) hb.ac.length (by omega) (hx.si.mor h) hx.length (by omega))
  have HCp := Lib.hid (fun w' (h : Mor w w') => copied_any A n c X m k b w' (hb.mor h) (by omega) (by omega) (fun y hy => by have := (linec_ok (entc_ok (((bookc_iff b).1 hc).enc y hy)).2.2.2).1; omega))
  rw [hkn] at HKn
  generalize findE b.en x.key = fi at *
  clear hc he hkn
  generalize hky : x.key = ky at *
  generalize hdy : x.day = dy at *
  generalize hsh : b.shut = sh at *
  have HEq := Lib.hid (And.intro hky (And.intro hdy hsh))
  clear hb hx hks hky hdy hsh
  go_enter Try.func22, Try.ntmps22
  go_wp2_with fail
  have hP0 := ((Bk.new w 25 #[.slice A n c, .slice X m k, .int .i64 sh]).alloc (.cells #[.string ky, .int .i64 dy, .slice B p q] 42)).alloc (.cells #[.slice none 0 0, .slice none 0 0, .int .i64 0] 25)
  have hX0 := (Bk.new (w.alloc (.cells #[.slice A n c, .slice X m k, .int .i64 sh] 25)) 42 #[.string ky, .int .i64 dy, .slice B p q]).alloc (.cells #[.slice none 0 0, .slice none 0 0, .int .i64 0] 25)
  have hR0 := Bk.new ((w.alloc (.cells #[.slice A n c, .slice X m k, .int .i64 sh] 25)).alloc (.cells #[.string ky, .int .i64 dy, .slice B p q] 42)) 25 #[.slice none 0 0, .slice none 0 0, .int .i64 0]
  have hM0 := (((Mor.refl w).alloc (o := .cells #[.slice A n c, .slice X m k, .int .i64 sh] 25)).alloc (o := .cells #[.string ky, .int .i64 dy, .slice B p q] 42)).alloc (o := .cells #[.slice none 0 0, .slice none 0 0, .int .i64 0] 25)
  rw [← sz1, ← sz1] at hR0
  rw [← sz1] at hX0
  obtain ⟨bP, hbP⟩ : ∃ b, b = w.heap.size := ⟨_, rfl⟩
  rw [← hbP] at hP0 hX0 hR0 ⊢
  obtain ⟨bX, hbX⟩ : ∃ b, b = bP + 1 := ⟨_, rfl⟩
  rw [← hbX] at hX0 hR0 ⊢
  obtain ⟨bR, hbR⟩ : ∃ b, b = bX + 1 := ⟨_, rfl⟩
  rw [← hbR] at hR0 ⊢
  generalize ((w.alloc (.cells #[.slice A n c, .slice X m k, .int .i64 sh] 25)).alloc (.cells #[.string ky, .int .i64 dy, .slice B p q] 42)).alloc (.cells #[.slice none 0 0, .slice none 0 0, .int .i64 0] 25) = w0 at *
  have HP := Lib.hid (fun w' (h : Mor w0 w') => hP0.mor h)
  have HX := Lib.hid (fun w' (h : Mor w0 w') => hX0.mor h)
  have HR := Lib.hid (fun w' (h : Mor w0 w') => hR0.mor h)
  have HM0 := Lib.hid hM0
  have HbR := Lib.hid (And.intro (show w.heap.size ≤ bR by omega) (And.intro (show w.heap.size ≤ bX by omega) (And.intro (show bX < bR by omega) (And.intro (show bP < bX by omega) (show bR < w0.heap.size from hR0.lt)))))
  clear hP0 hX0 hR0 hM0 hbP hbX hbR
  refine (HCk.out _ HM0.out).mono ?_
  rintro e w1 ⟨rfl, hm⟩
  have HM1 := Lib.hid hm
  clear hm
  have hc := HP.out _ HM1.out
  have c0 := hc.cell 0
  have c1 := hc.cell 1
  have c2 := hc.cell 2
  have cl := hc.lt
  have he := HX.out _ HM1.out
  have e0 := he.cell 0
  have e1 := he.cell 1
  have e2 := he.cell 2
  have ef0 := he.frozen 0
  have ef1 := he.frozen 1
  have ef2 := he.frozen 2
  have el := he.lt
  have hz := HR.out _ HM1.out
  have z0 := hz.cell 0
  have z1 := hz.cell 1
  have z2 := hz.cell 2
  have zf0 := hz.frozen 0
  have zf1 := hz.frozen 1
  have zf2 := hz.frozen 2
  have zl := hz.lt
  simp at c0 c1 c2 e0 e1 e2 z0 z1 z2
  clear hc he hz
  go_wp2_with fail
  refine (HEk.out _ (HM0.out.trans' HM1.out)).mono ?_
  rintro e w2 ⟨rfl, hm⟩
  have HM2 := Lib.hid (HM1.out.trans' hm)
  clear hm
  clear c0 c1 c2 cl e0 e1 e2 ef0 ef1 ef2 el z0 z1 z2 zf0 zf1 zf2 zl
  have hc := HP.out _ HM2.out
  have c0 := hc.cell 0
  have c1 := hc.cell 1
  have c2 := hc.cell 2
  have cl := hc.lt
  have he := HX.out _ HM2.out
  have e0 := he.cell 0
  have e1 := he.cell 1
  have e2 := he.cell 2
  have ef0 := he.frozen 0
  have ef1 := he.frozen 1
  have ef2 := he.frozen 2
  have el := he.lt
  have hz := HR.out _ HM2.out
  have z0 := hz.cell 0
  have z1 := hz.cell 1
  have z2 := hz.cell 2
  have zf0 := hz.frozen 0
  have zf1 := hz.frozen 1
  have zf2 := hz.frozen 2
  have zl := hz.lt
  simp at c0 c1 c2 e0 e1 e2 z0 z1 z2
  clear hc he hz
  go_wp2_with fail
  refine (HFi.out _ (HM0.out.trans' HM2.out)).mono ?_
  rintro e w3 ⟨rfl, hm⟩
  have HM3 := Lib.hid (HM2.out.trans' hm)
  clear hm
  clear c0 c1 c2 cl e0 e1 e2 ef0 ef1 ef2 el z0 z1 z2 zf0 zf1 zf2 zl
  have hc := HP.out _ HM3.out
  have c0 := hc.cell 0
  have c1 := hc.cell 1
  have c2 := hc.cell 2
  have cl := hc.lt
  have he := HX.out _ HM3.out
  have e0 := he.cell 0
  have e1 := he.cell 1
  have e2 := he.cell 2
  have ef0 := he.frozen 0
  have ef1 := he.frozen 1
  have ef2 := he.frozen 2
  have el := he.lt
  have hz := HR.out _ HM3.out
  have z0 := hz.cell 0
  have z1 := hz.cell 1
  have z2 := hz.cell 2
  have zf0 := hz.frozen 0
  have zf1 := hz.frozen 1
  have zf2 := hz.frozen 2
  have zl := hz.lt
  simp at c0 c1 c2 e0 e1 e2 z0 z1 z2
  clear hc he hz
  go_wp2_with fail
  refine (HKn.out _ (HM0.out.trans' HM3.out)).mono ?_
  rintro e w4 ⟨rfl, hm⟩
  have HM4 := Lib.hid (HM3.out.trans' hm)
  clear hm
  clear c0 c1 c2 cl e0 e1 e2 ef0 ef1 ef2 el z0 z1 z2 zf0 zf1 zf2 zl
  have hc := HP.out _ HM4.out
  have c0 := hc.cell 0
  have c1 := hc.cell 1
  have c2 := hc.cell 2
  have cl := hc.lt
  have he := HX.out _ HM4.out
  have e0 := he.cell 0
  have e1 := he.cell 1
  have e2 := he.cell 2
  have ef0 := he.frozen 0
  have ef1 := he.frozen 1
  have ef2 := he.frozen 2
  have el := he.lt
  have hz := HR.out _ HM4.out
  have z0 := hz.cell 0
  have z1 := hz.cell 1
  have z2 := hz.cell 2
  have zf0 := hz.frozen 0
  have zf1 := hz.frozen 1
  have zf2 := hz.frozen 2
  have zl := hz.lt
  simp at c0 c1 c2 e0 e1 e2 z0 z1 z2
  clear hc he hz
  have HE9 := Lib.hid (fun w9 (h : w9 = (((w4.setCell ⟨bR, 0, none⟩ (.slice none 0 0)).setCell ⟨bR, 1, none⟩ (.slice none 0 0)).setCell ⟨bR, 2, none⟩ (.int .i64 0))) => put3 (w := w) _ _ _ (HM0.out.trans' HM4.out) (HR.out _ HM4.out) HbR.out.1 h)
  go_wp2_with fail
  obtain ⟨w9, hw9⟩ : ∃ w9, w9 = (((w4.setCell ⟨bR, 0, none⟩ (.slice none 0 0)).setCell ⟨bR, 1, none⟩ (.slice none 0 0)).setCell ⟨bR, 2, none⟩ (.int .i64 0)) := ⟨_, rfl⟩
  rw [← hw9]
  obtain ⟨⟨q0, q1, q2⟩, q3⟩ := HE9.out w9 hw9
  clear hw9
  refine bodyPost_ret (by simp [results, Try.results22, go_sem, q0, q1, q2]; try rfl) rfl ?_
  exact ⟨rfl, q3⟩

set_option maxRecDepth 100000 in
set_option maxHeartbeats 1600000 in
theorem post_bad60 (A : Option Addr) (n c : Nat) (X : Option Addr) (m k : Nat) (b : Bok) (x : En) (B : Option Addr) (p q : Nat) (w : World) (hb : Bq w A n c X m k b) (hx : Lq w B p q x.ls) (hks : x.key.size ≤ maxLen) (hc : bookc b = 0) (he : enc x = 0) (hf : ¬ 0 ≤ findE b.en x.key) (hkn : knownB b.ac x = true) (hs : ¬ x.day ≤ b.shut) (h60 : m = 60) :
    Calls Try.prog 22 #[bv A n c X m k b.shut, .agg #[.string x.key, .int .i64 x.day, .slice B p q]] w (PostNo w 2) := by
  have HBq := Lib.hid hb
  have HXq := Lib.hid hx
  have HKs := Lib.hid hks
  have HCk := Lib.hid (fun w' (h : Mor w w') => bcheck_any A n c X m k b w' (hb.mor h))
  have HEk := Lib.hid (fun w' (h : Mor w w') => check_any x.key x.day B p q x.ls w' hks (hx.si.mor h) hx.length hx.le (Nat.le_trans hx.le hx.max) hx.str)
  rw [show entc x.key x.day x.ls = enc x from rfl] at HEk
  rw [hc] at HCk
  rw [he] at HEk
  have HBO := Lib.hid ((bookc_iff b).1 hc)
  have HEO := Lib.hid he
  have hm60 : m ≤ 60 := by rw [← hb.length]; exact ((bookc_iff b).1 hc).len
  have hn24 : n ≤ 24 := by rw [← hb.ac.length]; exact (acc_len ((bookc_iff b).1 hc).ac)
  have hp12 : p ≤ 12 := by rw [← hx.length]; exact (linec_ok (entc_ok he).2.2.2).1
  have HFi := Lib.hid (fun w' (h : Mor w w') => find_en A n c X m k b.shut b.en x.key w' (hb.es.mor h) hb.length (by omega))
  have HKn := Lib.hid (fun w' (h : Mor w w') => known_any A n c X m k b.shut B p q b.ac x w' (hb.ac.si.mor h) hb.ac.length (by omega) (hx.si.mor h) hx.length (by omega))
  have HCp := Lib.hid (fun w' (h : Mor w w') => copied_any A n c X m k b w' (hb.mor h) (by omega) (by omega) (fun y hy => by have := (linec_ok (entc_ok (((bookc_iff b).1 hc).enc y hy)).2.2.2).1; omega))
  rw [hkn] at HKn
  generalize findE b.en x.key = fi at *
  have h60b : ((m : Int) == 60) = true := by simp; omega
  clear hc he hkn h60
  generalize hky : x.key = ky at *
  generalize hdy : x.day = dy at *
  generalize hsh : b.shut = sh at *
  have HEq := Lib.hid (And.intro hky (And.intro hdy hsh))
  clear hb hx hks hky hdy hsh
  go_enter Try.func22, Try.ntmps22
  go_wp2_with fail
  have hP0 := ((Bk.new w 25 #[.slice A n c, .slice X m k, .int .i64 sh]).alloc (.cells #[.string ky, .int .i64 dy, .slice B p q] 42)).alloc (.cells #[.slice none 0 0, .slice none 0 0, .int .i64 0] 25)
  have hX0 := (Bk.new (w.alloc (.cells #[.slice A n c, .slice X m k, .int .i64 sh] 25)) 42 #[.string ky, .int .i64 dy, .slice B p q]).alloc (.cells #[.slice none 0 0, .slice none 0 0, .int .i64 0] 25)
  have hR0 := Bk.new ((w.alloc (.cells #[.slice A n c, .slice X m k, .int .i64 sh] 25)).alloc (.cells #[.string ky, .int .i64 dy, .slice B p q] 42)) 25 #[.slice none 0 0, .slice none 0 0, .int .i64 0]
  have hM0 := (((Mor.refl w).alloc (o := .cells #[.slice A n c, .slice X m k, .int .i64 sh] 25)).alloc (o := .cells #[.string ky, .int .i64 dy, .slice B p q] 42)).alloc (o := .cells #[.slice none 0 0, .slice none 0 0, .int .i64 0] 25)
  rw [← sz1, ← sz1] at hR0
  rw [← sz1] at hX0
  obtain ⟨bP, hbP⟩ : ∃ b, b = w.heap.size := ⟨_, rfl⟩
  rw [← hbP] at hP0 hX0 hR0 ⊢
  obtain ⟨bX, hbX⟩ : ∃ b, b = bP + 1 := ⟨_, rfl⟩
  rw [← hbX] at hX0 hR0 ⊢
  obtain ⟨bR, hbR⟩ : ∃ b, b = bX + 1 := ⟨_, rfl⟩
  rw [← hbR] at hR0 ⊢
  generalize ((w.alloc (.cells #[.slice A n c, .slice X m k, .int .i64 sh] 25)).alloc (.cells #[.string ky, .int .i64 dy, .slice B p q] 42)).alloc (.cells #[.slice none 0 0, .slice none 0 0, .int .i64 0] 25) = w0 at *
  have HP := Lib.hid (fun w' (h : Mor w0 w') => hP0.mor h)
  have HX := Lib.hid (fun w' (h : Mor w0 w') => hX0.mor h)
  have HR := Lib.hid (fun w' (h : Mor w0 w') => hR0.mor h)
  have HM0 := Lib.hid hM0
  have HbR := Lib.hid (And.intro (show w.heap.size ≤ bR by omega) (And.intro (show w.heap.size ≤ bX by omega) (And.intro (show bX < bR by omega) (And.intro (show bP < bX by omega) (show bR < w0.heap.size from hR0.lt)))))
  clear hP0 hX0 hR0 hM0 hbP hbX hbR
  refine (HCk.out _ HM0.out).mono ?_
  rintro e w1 ⟨rfl, hm⟩
  have HM1 := Lib.hid hm
  clear hm
  have hc := HP.out _ HM1.out
  have c0 := hc.cell 0
  have c1 := hc.cell 1
  have c2 := hc.cell 2
  have cl := hc.lt
  have he := HX.out _ HM1.out
  have e0 := he.cell 0
  have e1 := he.cell 1
  have e2 := he.cell 2
  have ef0 := he.frozen 0
  have ef1 := he.frozen 1
  have ef2 := he.frozen 2
  have el := he.lt
  have hz := HR.out _ HM1.out
  have z0 := hz.cell 0
  have z1 := hz.cell 1
  have z2 := hz.cell 2
  have zf0 := hz.frozen 0
  have zf1 := hz.frozen 1
  have zf2 := hz.frozen 2
  have zl := hz.lt
  simp at c0 c1 c2 e0 e1 e2 z0 z1 z2
  clear hc he hz
  go_wp2_with fail
  refine (HEk.out _ (HM0.out.trans' HM1.out)).mono ?_
  rintro e w2 ⟨rfl, hm⟩
  have HM2 := Lib.hid (HM1.out.trans' hm)
  clear hm
  clear c0 c1 c2 cl e0 e1 e2 ef0 ef1 ef2 el z0 z1 z2 zf0 zf1 zf2 zl
  have hc := HP.out _ HM2.out
  have c0 := hc.cell 0
  have c1 := hc.cell 1
  have c2 := hc.cell 2
  have cl := hc.lt
  have he := HX.out _ HM2.out
  have e0 := he.cell 0
  have e1 := he.cell 1
  have e2 := he.cell 2
  have ef0 := he.frozen 0
  have ef1 := he.frozen 1
  have ef2 := he.frozen 2
  have el := he.lt
  have hz := HR.out _ HM2.out
  have z0 := hz.cell 0
  have z1 := hz.cell 1
  have z2 := hz.cell 2
  have zf0 := hz.frozen 0
  have zf1 := hz.frozen 1
  have zf2 := hz.frozen 2
  have zl := hz.lt
  simp at c0 c1 c2 e0 e1 e2 z0 z1 z2
  clear hc he hz
  go_wp2_with fail
  refine (HFi.out _ (HM0.out.trans' HM2.out)).mono ?_
  rintro e w3 ⟨rfl, hm⟩
  have HM3 := Lib.hid (HM2.out.trans' hm)
  clear hm
  clear c0 c1 c2 cl e0 e1 e2 ef0 ef1 ef2 el z0 z1 z2 zf0 zf1 zf2 zl
  have hc := HP.out _ HM3.out
  have c0 := hc.cell 0
  have c1 := hc.cell 1
  have c2 := hc.cell 2
  have cl := hc.lt
  have he := HX.out _ HM3.out
  have e0 := he.cell 0
  have e1 := he.cell 1
  have e2 := he.cell 2
  have ef0 := he.frozen 0
  have ef1 := he.frozen 1
  have ef2 := he.frozen 2
  have el := he.lt
  have hz := HR.out _ HM3.out
  have z0 := hz.cell 0
  have z1 := hz.cell 1
  have z2 := hz.cell 2
  have zf0 := hz.frozen 0
  have zf1 := hz.frozen 1
  have zf2 := hz.frozen 2
  have zl := hz.lt
  simp at c0 c1 c2 e0 e1 e2 z0 z1 z2
  clear hc he hz
  go_wp2_with fail
  refine (HKn.out _ (HM0.out.trans' HM3.out)).mono ?_
  rintro e w4 ⟨rfl, hm⟩
  have HM4 := Lib.hid (HM3.out.trans' hm)
  clear hm
  clear c0 c1 c2 cl e0 e1 e2 ef0 ef1 ef2 el z0 z1 z2 zf0 zf1 zf2 zl
  have hc := HP.out _ HM4.out
  have c0 := hc.cell 0
  have c1 := hc.cell 1
  have c2 := hc.cell 2
  have cl := hc.lt
  have he := HX.out _ HM4.out
  have e0 := he.cell 0
  have e1 := he.cell 1
  have e2 := he.cell 2
  have ef0 := he.frozen 0
  have ef1 := he.frozen 1
  have ef2 := he.frozen 2
  have el := he.lt
  have hz := HR.out _ HM4.out
  have z0 := hz.cell 0
  have z1 := hz.cell 1
  have z2 := hz.cell 2
  have zf0 := hz.frozen 0
  have zf1 := hz.frozen 1
  have zf2 := hz.frozen 2
  have zl := hz.lt
  simp at c0 c1 c2 e0 e1 e2 z0 z1 z2
  clear hc he hz
  have HE9 := Lib.hid (fun w9 (h : w9 = (((w4.setCell ⟨bR, 0, none⟩ (.slice none 0 0)).setCell ⟨bR, 1, none⟩ (.slice none 0 0)).setCell ⟨bR, 2, none⟩ (.int .i64 0))) => put3 (w := w) _ _ _ (HM0.out.trans' HM4.out) (HR.out _ HM4.out) HbR.out.1 h)
  go_wp2_with fail
  obtain ⟨w9, hw9⟩ : ∃ w9, w9 = (((w4.setCell ⟨bR, 0, none⟩ (.slice none 0 0)).setCell ⟨bR, 1, none⟩ (.slice none 0 0)).setCell ⟨bR, 2, none⟩ (.int .i64 0)) := ⟨_, rfl⟩
  rw [← hw9]
  obtain ⟨⟨q0, q1, q2⟩, q3⟩ := HE9.out w9 hw9
  clear hw9
  refine bodyPost_ret (by simp [results, Try.results22, go_sem, q0, q1, q2]; try rfl) rfl ?_
  exact ⟨rfl, q3⟩
end Go.Proofs.Ytpgefclnplmlkaa
