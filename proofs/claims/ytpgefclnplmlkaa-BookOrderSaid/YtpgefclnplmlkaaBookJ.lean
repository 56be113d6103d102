/- The walk of book.Post (printed by gpost.py). -/
import Derived.Test.YtpgefclnplmlkaaBookH
namespace Go.Proofs.Ytpgefclnplmlkaa
open Go.ChangeShapes Go.WideShapes Go.ChangeAt Go.RowKit Go.PlainAid
set_option linter.unusedVariables false


set_option maxRecDepth 100000 in
set_option maxHeartbeats 1600000 in
theorem post_bad5 (A : Option Addr) (n c : Nat) (X : Option Addr) (m k : Nat) (b : Bok) (x : En) (B : Option Addr) (p q : Nat) (w : World) (hb : Bq w A n c X m k b) (hx : Lq w B p q x.ls) (hks : x.key.size ≤ maxLen) (hc : bookc b = 0) (he : enc x = 0) (hf : 0 ≤ findE b.en x.key) (hne : ne b.en (findE b.en x.key).toNat ≠ x) :
    Calls Try.prog 22 #[bv A n c X m k b.shut, .agg #[.string x.key, .int .i64 x.day, .slice B p q]] w (PostNo w 5) := by
  have HBq := Lib.hid hb
  have HXq := Lib.hid hx
  have HKs := Lib.hid hks
  have HCk := Lib.hid (fun w' (h : Mor w w') => bcheck_any A n c X m k b w' (hb.mor h))
  have HEk := Lib.hid (fun w' (h : Mor w w') => check_any x.key x.day B p q x.ls w' hks (hx.si.mor h) hx.length hx.le (Nat.le_trans hx.le hx.max) hx.str)
  rw [show entc x.key x.day x.ls = enc x from rfl] at HEk
  rw [hc] at HCk
  rw [he] at HEk
  have HBO := Lib.hid ((bookc_iff b).1 hc)
  have HEO := Lib.hid he
  have hm60 : m ≤ 60 := by rw [← hb.length]; exact ((bookc_iff b).1 hc).len
  have hn24 : n ≤ 24 := by rw [← hb.ac.length]; exact (acc_len ((bookc_iff b).1 hc).ac)
  have hp12 : p ≤ 12 := by rw [← hx.length]; exact (linec_ok (entc_ok he).2.2.2).1
  have HFi := Lib.hid (fun w' (h : Mor w w') => find_en A n c X m k b.shut b.en x.key w' (hb.es.mor h) hb.length (by omega))
  have HKn := Lib.hid (fun w' (h : Mor w w') => known_any A n c X m k b.shut B p q b.ac x w' (hb.ac.si.mor h) hb.ac.length (by omega) (hx.si.mor h) hx.length (by omega))
  have HCp := Lib.hid (fun w' (h : Mor w w') => copied_any A n c X m k b w' (hb.mor h) (by omega) (by omega) (fun y hy => by have := (linec_ok (entc_ok (((bookc_iff b).1 hc).enc y hy)).2.2.2).1; omega))
  have hil : (findE b.en x.key).toNat < b.en.length := by
    rcases findE_cases b.en x.key with ⟨e, _⟩ | ⟨i, hi, e, _⟩
    · rw [e] at hf; omega
    · rw [e]; simpa using hi
  obtain ⟨i, hi⟩ : ∃ i : Nat, findE b.en x.key = i := ⟨(findE b.en x.key).toNat, by omega⟩
  rw [hi] at HFi hne hil
  simp only [Int.toNat_natCast] at hne hil
  have HSm := Lib.hid (fun w' (h : Mor w w') A' n' c' (hq : Lq w' A' n' c' (ne b.en i).ls) => esame_any (ne b.en i) x A' B n' c' p q w' hq (hx.mor h))
  rw [decide_eq_false hne] at HSm
  have HF := Lib.hid (show (5 : Int) = 5 from rfl)
  have hi0 : (0 : Int) ≤ (i : Int) := by omega
  have him : (i : Int) < (m : Int) := by rw [← hb.length]; omega
  have hil2 : i < m := by omega
  have HN := Lib.hid hb.length
  clear hc he hf hi hne hil
  generalize hky : x.key = ky at *
  generalize hdy : x.day = dy at *
  generalize hsh : b.shut = sh at *
  have HEq := Lib.hid (And.intro hky (And.intro hdy hsh))
  clear hb hx hks hky hdy hsh
  generalize hky2 : (ne b.en i).key = ky2 at *
  generalize hdy2 : (ne b.en i).day = dy2 at *
  have HEq2 := Lib.hid (And.intro hky2 hdy2)
  clear hky2 hdy2
  go_enter Try.func22, Try.ntmps22
  go_wp2_with fail
  have hP0 := ((Bk.new w 25 #[.slice A n c, .slice X m k, .int .i64 sh]).alloc (.cells #[.string ky, .int .i64 dy, .slice B p q] 42)).alloc (.cells #[.slice none 0 0, .slice none 0 0, .int .i64 0] 25)
  have hX0 := (Bk.new (w.alloc (.cells #[.slice A n c, .slice X m k, .int .i64 sh] 25)) 42 #[.string ky, .int .i64 dy, .slice B p q]).alloc (.cells #[.slice none 0 0, .slice none 0 0, .int .i64 0] 25)
  have hR0 := Bk.new ((w.alloc (.cells #[.slice A n c, .slice X m k, .int .i64 sh] 25)).alloc (.cells #[.string ky, .int .i64 dy, .slice B p q] 42)) 25 #[.slice none 0 0, .slice none 0 0, .int .i64 0]
  have hM0 := (((Mor.refl w).alloc (o := .cells #[.slice A n c, .slice X m k, .int .i64 sh] 25)).alloc (o := .cells #[.string ky, .int .i64 dy, .slice B p q] 42)).alloc (o := .cells #[.slice none 0 0, .slice none 0 0, .int .i64 0] 25)
  rw [← sz1, ← sz1] at hR0
  rw [← sz1] at hX0
  obtain ⟨bP, hbP⟩ : ∃ b, b = w.heap.size := ⟨_, rfl⟩
  rw [← hbP] at hP0 hX0 hR0 ⊢
  obtain ⟨bX, hbX⟩ : ∃ b, b = bP + 1 := ⟨_, rfl⟩
  rw [← hbX] at hX0 hR0 ⊢
  obtain ⟨bR, hbR⟩ : ∃ b, b = bX + 1 := ⟨_, rfl⟩
  rw [← hbR] at hR0 ⊢
  generalize ((w.alloc (.cells #[.slice A n c, .slice X m k, .int .i64 sh] 25)).alloc (.cells #[.string ky, .int .i64 dy, .slice B p q] 42)).alloc (.cells #[.slice none 0 0, .slice none 0 0, .int .i64 0] 25) = w0 at *
  have HP := Lib.hid (fun w' (h : Mor w0 w') => hP0.mor h)
  have HX := Lib.hid (fun w' (h : Mor w0 w') => hX0.mor h)
  have HR := Lib.hid (fun w' (h : Mor w0 w') => hR0.mor h)
  have HM0 := Lib.hid hM0
  have HbR := Lib.hid (And.intro (show w.heap.size ≤ bR by omega) (And.intro (show w.heap.size ≤ bX by omega) (And.intro (show bX < bR by omega) (And.intro (show bP < bX by omega) (show bR < w0.heap.size from hR0.lt)))))
  clear hP0 hX0 hR0 hM0 hbP hbX hbR
  refine (HCk.out _ HM0.out).mono ?_
  rintro e w1 ⟨rfl, hm⟩
  have HM1 := Lib.hid hm
  clear hm
  have hc := HP.out _ HM1.out
  have c0 := hc.cell 0
  have c1 := hc.cell 1
  have c2 := hc.cell 2
  have cl := hc.lt
  have he := HX.out _ HM1.out
  have e0 := he.cell 0
  have e1 := he.cell 1
  have e2 := he.cell 2
  have ef0 := he.frozen 0
  have ef1 := he.frozen 1
  have ef2 := he.frozen 2
  have el := he.lt
  have hz := HR.out _ HM1.out
  have z0 := hz.cell 0
  have z1 := hz.cell 1
  have z2 := hz.cell 2
  have zf0 := hz.frozen 0
  have zf1 := hz.frozen 1
  have zf2 := hz.frozen 2
  have zl := hz.lt
  simp at c0 c1 c2 e0 e1 e2 z0 z1 z2
  clear hc he hz
  go_wp2_with fail
  refine (HEk.out _ (HM0.out.trans' HM1.out)).mono ?_
  rintro e w2 ⟨rfl, hm⟩
  have HM2 := Lib.hid (HM1.out.trans' hm)
  clear hm
  clear c0 c1 c2 cl e0 e1 e2 ef0 ef1 ef2 el z0 z1 z2 zf0 zf1 zf2 zl
  have hc := HP.out _ HM2.out
  have c0 := hc.cell 0
  have c1 := hc.cell 1
  have c2 := hc.cell 2
  have cl := hc.lt
  have he := HX.out _ HM2.out
  have e0 := he.cell 0
  have e1 := he.cell 1
  have e2 := he.cell 2
  have ef0 := he.frozen 0
  have ef1 := he.frozen 1
  have ef2 := he.frozen 2
  have el := he.lt
  have hz := HR.out _ HM2.out
  have z0 := hz.cell 0
  have z1 := hz.cell 1
  have z2 := hz.cell 2
  have zf0 := hz.frozen 0
  have zf1 := hz.frozen 1
  have zf2 := hz.frozen 2
  have zl := hz.lt
  simp at c0 c1 c2 e0 e1 e2 z0 z1 z2
  clear hc he hz
  go_wp2_with fail
  refine (HFi.out _ (HM0.out.trans' HM2.out)).mono ?_
  rintro e w3 ⟨rfl, hm⟩
  have HM3 := Lib.hid (HM2.out.trans' hm)
  clear hm
  clear c0 c1 c2 cl e0 e1 e2 ef0 ef1 ef2 el z0 z1 z2 zf0 zf1 zf2 zl
  have hc := HP.out _ HM3.out
  have c0 := hc.cell 0
  have c1 := hc.cell 1
  have c2 := hc.cell 2
  have cl := hc.lt
  have he := HX.out _ HM3.out
  have e0 := he.cell 0
  have e1 := he.cell 1
  have e2 := he.cell 2
  have ef0 := he.frozen 0
  have ef1 := he.frozen 1
  have ef2 := he.frozen 2
  have el := he.lt
  have hz := HR.out _ HM3.out
  have z0 := hz.cell 0
  have z1 := hz.cell 1
  have z2 := hz.cell 2
  have zf0 := hz.frozen 0
  have zf1 := hz.frozen 1
  have zf2 := hz.frozen 2
  have zl := hz.lt
  simp at c0 c1 c2 e0 e1 e2 z0 z1 z2
  clear hc he hz
  obtain ⟨x', A', n', c', hX, hxb, -, d0, d1, d2, hlq⟩ := (HBq.out.es.mor (HM0.out.trans' HM3.out)).at_ i (by rw [HN.out]; exact hil2)
  rw [HEq2.out.1] at d0
  rw [HEq2.out.2] at d1
  subst hX
  have HKp := Lib.hid (fun w' (h' : Mor w3 w') => show (w'.cell? ⟨bP, 1, none⟩ = some (.slice (some x') m k) ∧ w'.cell? ⟨bX, 0, none⟩ = some (.string ky) ∧ w'.cell? ⟨bX, 1, none⟩ = some (.int .i64 dy) ∧ w'.cell? ⟨bX, 2, none⟩ = some (.slice B p q) ∧ w'.cell? (x'.add (i * 3)) = some (.string ky2) ∧ w'.cell? ⟨(x'.add (i * 3)).block, (x'.add (i * 3)).off + 1, none⟩ = some (.int .i64 dy2) ∧ w'.cell? ⟨(x'.add (i * 3)).block, (x'.add (i * 3)).off + 2, none⟩ = some (.slice A' n' c')) from by
    have hp := HP.out _ (HM3.out.trans' h')
    have he := HX.out _ (HM3.out.trans' h')
    exact ⟨by rw [hp.cell]; rfl, by rw [he.cell]; rfl, by rw [he.cell]; rfl, by rw [he.cell]; rfl, (h'.below.cell (p := x'.add (i * 3)) (by rw [addb]; exact hxb)).trans d0, (h'.below.cell (p := ⟨(x'.add (i * 3)).block, (x'.add (i * 3)).off + 1, none⟩) (by rw [addb]; exact hxb)).trans d1, (h'.below.cell (p := ⟨(x'.add (i * 3)).block, (x'.add (i * 3)).off + 2, none⟩) (by rw [addb]; exact hxb)).trans d2⟩)
  have HSm3 := Lib.hid (fun w' (h : Mor w3 w') => HSm.out w' ((HM0.out.trans' HM3.out).trans' h) A' n' c' (hlq.mor h))
  clear hlq HSm
  go_wp2_with fail
  go_region_held3 (fun w' => w'.cell? ⟨bP, 1, none⟩ = some (.slice (some x') m k) ∧ w'.cell? ⟨bX, 0, none⟩ = some (.string ky) ∧ w'.cell? ⟨bX, 1, none⟩ = some (.int .i64 dy) ∧ w'.cell? ⟨bX, 2, none⟩ = some (.slice B p q) ∧ w'.cell? (x'.add (i * 3)) = some (.string ky2) ∧ w'.cell? ⟨(x'.add (i * 3)).block, (x'.add (i * 3)).off + 1, none⟩ = some (.int .i64 dy2) ∧ w'.cell? ⟨(x'.add (i * 3)).block, (x'.add (i * 3)).off + 2, none⟩ = some (.slice A' n' c')) (exact HKp.out _ (by repeat (first | exact Mor.refl _ | apply Mor.alloc | apply Mor.more | apply Mor.drewN | apply Mor.drew))) (first | (go_at_call 49; (with_reducible refine (HSm3.out _ (by repeat (first | exact Mor.refl _ | apply Mor.alloc | apply Mor.more | apply Mor.drewN | apply Mor.drew))).mono ?_); rintro e w8 ⟨rfl, bs3, dr3, rfl⟩))
  obtain ⟨w4, hwn⟩ : ∃ wn, wn = more w3 bs3 dr3 := ⟨_, rfl⟩
  rw [← hwn]
  have HM4 := Lib.hid (show Mor w0 w4 by rw [hwn]; exact HM3.out.trans' (Mor.refl _).more)
  clear hwn HKp d0 d1 d2 hxb HSm3
  clear c0 c1 c2 cl e0 e1 e2 ef0 ef1 ef2 el z0 z1 z2 zf0 zf1 zf2 zl
  have hc := HP.out _ HM4.out
  have c0 := hc.cell 0
  have c1 := hc.cell 1
  have c2 := hc.cell 2
  have cl := hc.lt
  have he := HX.out _ HM4.out
  have e0 := he.cell 0
  have e1 := he.cell 1
  have e2 := he.cell 2
  have ef0 := he.frozen 0
  have ef1 := he.frozen 1
  have ef2 := he.frozen 2
  have el := he.lt
  have hz := HR.out _ HM4.out
  have z0 := hz.cell 0
  have z1 := hz.cell 1
  have z2 := hz.cell 2
  have zf0 := hz.frozen 0
  have zf1 := hz.frozen 1
  have zf2 := hz.frozen 2
  have zl := hz.lt
  simp at c0 c1 c2 e0 e1 e2 z0 z1 z2
  clear hc he hz
  have HE9 := Lib.hid (fun w9 (h : w9 = (((w4.setCell ⟨bR, 0, none⟩ (.slice none 0 0)).setCell ⟨bR, 1, none⟩ (.slice none 0 0)).setCell ⟨bR, 2, none⟩ (.int .i64 0))) => put3 (w := w) _ _ _ (HM0.out.trans' HM4.out) (HR.out _ HM4.out) HbR.out.1 h)
  go_wp2_with fail
  obtain ⟨w9, hw9⟩ : ∃ w9, w9 = (((w4.setCell ⟨bR, 0, none⟩ (.slice none 0 0)).setCell ⟨bR, 1, none⟩ (.slice none 0 0)).setCell ⟨bR, 2, none⟩ (.int .i64 0)) := ⟨_, rfl⟩
  rw [← hw9]
  obtain ⟨⟨q0, q1, q2⟩, q3⟩ := HE9.out w9 hw9
  clear hw9
  refine bodyPost_ret (by simp [results, Try.results22, go_sem, q0, q1, q2]; try rfl) rfl ?_
  exact ⟨rfl, q3⟩

set_option maxRecDepth 100000 in
set_option maxHeartbeats 1600000 in
theorem post_same (A : Option Addr) (n c : Nat) (X : Option Addr) (m k : Nat) (b : Bok) (x : En) (B : Option Addr) (p q : Nat) (w : World) (hb : Bq w A n c X m k b) (hx : Lq w B p q x.ls) (hks : x.key.size ≤ maxLen) (hc : bookc b = 0) (he : enc x = 0) (hf : 0 ≤ findE b.en x.key) (hne : ne b.en (findE b.en x.key).toNat = x) :
    Calls Try.prog 22 #[bv A n c X m k b.shut, .agg #[.string x.key, .int .i64 x.day, .slice B p q]] w (PostYes w b) := by
  have HBq := Lib.hid hb
  have HXq := Lib.hid hx
  have HKs := Lib.hid hks
  have HCk := Lib.hid (fun w' (h : Mor w w') => bcheck_any A n c X m k b w' (hb.mor h))
  have HEk := Lib.hid (fun w' (h : Mor w w') => check_any x.key x.day B p q x.ls w' hks (hx.si.mor h) hx.length hx.le (Nat.le_trans hx.le hx.max) hx.str)
  rw [show entc x.key x.day x.ls = enc x from rfl] at HEk
  rw [hc] at HCk
  rw [he] at HEk
  have HBO := Lib.hid ((bookc_iff b).1 hc)
  have HEO := Lib.hid he
  have hm60 : m ≤ 60 := by rw [← hb.length]; exact ((bookc_iff b).1 hc).len
  have hn24 : n ≤ 24 := by rw [← hb.ac.length]; exact (acc_len ((bookc_iff b).1 hc).ac)
  have hp12 : p ≤ 12 := by rw [← hx.length]; exact (linec_ok (entc_ok he).2.2.2).1
  have HFi := Lib.hid (fun w' (h : Mor w w') => find_en A n c X m k b.shut b.en x.key w' (hb.es.mor h) hb.length (by omega))
  have HKn := Lib.hid (fun w' (h : Mor w w') => known_any A n c X m k b.shut B p q b.ac x w' (hb.ac.si.mor h) hb.ac.length (by omega) (hx.si.mor h) hx.length (by omega))
  have HCp := Lib.hid (fun w' (h : Mor w w') => copied_any A n c X m k b w' (hb.mor h) (by omega) (by omega) (fun y hy => by have := (linec_ok (entc_ok (((bookc_iff b).1 hc).enc y hy)).2.2.2).1; omega))
  have hil : (findE b.en x.key).toNat < b.en.length := by
    rcases findE_cases b.en x.key with ⟨e, _⟩ | ⟨i, hi, e, _⟩
    · rw [e] at hf; omega
    · rw [e]; simpa using hi
  obtain ⟨i, hi⟩ : ∃ i : Nat, findE b.en x.key = i := ⟨(findE b.en x.key).toNat, by omega⟩
  rw [hi] at HFi hne hil
  simp only [Int.toNat_natCast] at hne hil
  have HSm := Lib.hid (fun w' (h : Mor w w') A' n' c' (hq : Lq w' A' n' c' (ne b.en i).ls) => esame_any (ne b.en i) x A' B n' c' p q w' hq (hx.mor h))
  rw [decide_eq_true hne] at HSm
  have HF := Lib.hid (show (5 : Int) = 5 from rfl)
  have hi0 : (0 : Int) ≤ (i : Int) := by omega
  have him : (i : Int) < (m : Int) := by rw [← hb.length]; omega
  have hil2 : i < m := by omega
  have HN := Lib.hid hb.length
  clear hc he hf hi hne hil
  generalize hky : x.key = ky at *
  generalize hdy : x.day = dy at *
  generalize hsh : b.shut = sh at *
  have HEq := Lib.hid (And.intro hky (And.intro hdy hsh))
  clear hb hx hks hky hdy hsh
  generalize hky2 : (ne b.en i).key = ky2 at *
  generalize hdy2 : (ne b.en i).day = dy2 at *
  have HEq2 := Lib.hid (And.intro hky2 hdy2)
  clear hky2 hdy2
  go_enter Try.func22, Try.ntmps22
  go_wp2_with fail
  have hP0 := ((Bk.new w 25 #[.slice A n c, .slice X m k, .int .i64 sh]).alloc (.cells #[.string ky, .int .i64 dy, .slice B p q] 42)).alloc (.cells #[.slice none 0 0, .slice none 0 0, .int .i64 0] 25)
  have hX0 := (Bk.new (w.alloc (.cells #[.slice A n c, .slice X m k, .int .i64 sh] 25)) 42 #[.string ky, .int .i64 dy, .slice B p q]).alloc (.cells #[.slice none 0 0, .slice none 0 0, .int .i64 0] 25)
  have hR0 := Bk.new ((w.alloc (.cells #[.slice A n c, .slice X m k, .int .i64 sh] 25)).alloc (.cells #[.string ky, .int .i64 dy, .slice B p q] 42)) 25 #[.slice none 0 0, .slice none 0 0, .int .i64 0]
  have hM0 := (((Mor.refl w).alloc (o := .cells #[.slice A n c, .slice X m k, .int .i64 sh] 25)).alloc (o := .cells #[.string ky, .int .i64 dy, .slice B p q] 42)).alloc (o := .cells #[.slice none 0 0, .slice none 0 0, .int .i64 0] 25)
  rw [← sz1, ← sz1] at hR0
  rw [← sz1] at hX0
  obtain ⟨bP, hbP⟩ : ∃ b, b = w.heap.size := ⟨_, rfl⟩
  rw [← hbP] at hP0 hX0 hR0 ⊢
  obtain ⟨bX, hbX⟩ : ∃ b, b = bP + 1 := ⟨_, rfl⟩
  rw [← hbX] at hX0 hR0 ⊢
  obtain ⟨bR, hbR⟩ : ∃ b, b = bX + 1 := ⟨_, rfl⟩
  rw [← hbR] at hR0 ⊢
  generalize ((w.alloc (.cells #[.slice A n c, .slice X m k, .int .i64 sh] 25)).alloc (.cells #[.string ky, .int .i64 dy, .slice B p q] 42)).alloc (.cells #[.slice none 0 0, .slice none 0 0, .int .i64 0] 25) = w0 at *
  have HP := Lib.hid (fun w' (h : Mor w0 w') => hP0.mor h)
  have HX := Lib.hid (fun w' (h : Mor w0 w') => hX0.mor h)
  have HR := Lib.hid (fun w' (h : Mor w0 w') => hR0.mor h)
  have HM0 := Lib.hid hM0
  have HbR := Lib.hid (And.intro (show w.heap.size ≤ bR by omega) (And.intro (show w.heap.size ≤ bX by omega) (And.intro (show bX < bR by omega) (And.intro (show bP < bX by omega) (show bR < w0.heap.size from hR0.lt)))))
  clear hP0 hX0 hR0 hM0 hbP hbX hbR
  refine (HCk.out _ HM0.out).mono ?_
  rintro e w1 ⟨rfl, hm⟩
  have HM1 := Lib.hid hm
  clear hm
  have hc := HP.out _ HM1.out
  have c0 := hc.cell 0
  have c1 := hc.cell 1
  have c2 := hc.cell 2
  have cl := hc.lt
  have he := HX.out _ HM1.out
  have e0 := he.cell 0
  have e1 := he.cell 1
  have e2 := he.cell 2
  have ef0 := he.frozen 0
  have ef1 := he.frozen 1
  have ef2 := he.frozen 2
  have el := he.lt
  have hz := HR.out _ HM1.out
  have z0 := hz.cell 0
  have z1 := hz.cell 1
  have z2 := hz.cell 2
  have zf0 := hz.frozen 0
  have zf1 := hz.frozen 1
  have zf2 := hz.frozen 2
  have zl := hz.lt
  simp at c0 c1 c2 e0 e1 e2 z0 z1 z2
  clear hc he hz
  go_wp2_with fail
  refine (HEk.out _ (HM0.out.trans' HM1.out)).mono ?_
  rintro e w2 ⟨rfl, hm⟩
  have HM2 := Lib.hid (HM1.out.trans' hm)
  clear hm
  clear c0 c1 c2 cl e0 e1 e2 ef0 ef1 ef2 el z0 z1 z2 zf0 zf1 zf2 zl
  have hc := HP.out _ HM2.out
  have c0 := hc.cell 0
  have c1 := hc.cell 1
  have c2 := hc.cell 2
  have cl := hc.lt
  have he := HX.out _ HM2.out
  have e0 := he.cell 0
  have e1 := he.cell 1
  have e2 := he.cell 2
  have ef0 := he.frozen 0
  have ef1 := he.frozen 1
  have ef2 := he.frozen 2
  have el := he.lt
  have hz := HR.out _ HM2.out
  have z0 := hz.cell 0
  have z1 := hz.cell 1
  have z2 := hz.cell 2
  have zf0 := hz.frozen 0
  have zf1 := hz.frozen 1
  have zf2 := hz.frozen 2
  have zl := hz.lt
  simp at c0 c1 c2 e0 e1 e2 z0 z1 z2
  clear hc he hz
  go_wp2_with fail
  refine (HFi.out _ (HM0.out.trans' HM2.out)).mono ?_
  rintro e w3 ⟨rfl, hm⟩
  have HM3 := Lib.hid (HM2.out.trans' hm)
  clear hm
  clear c0 c1 c2 cl e0 e1 e2 ef0 ef1 ef2 el z0 z1 z2 zf0 zf1 zf2 zl
  have hc := HP.out _ HM3.out
  have c0 := hc.cell 0
  have c1 := hc.cell 1
  have c2 := hc.cell 2
  have cl := hc.lt
  have he := HX.out _ HM3.out
  have e0 := he.cell 0
  have e1 := he.cell 1
  have e2 := he.cell 2
  have ef0 := he.frozen 0
  have ef1 := he.frozen 1
  have ef2 := he.frozen 2
  have el := he.lt
  have hz := HR.out _ HM3.out
  have z0 := hz.cell 0
  have z1 := hz.cell 1
  have z2 := hz.cell 2
  have zf0 := hz.frozen 0
  have zf1 := hz.frozen 1
  have zf2 := hz.frozen 2
  have zl := hz.lt
  simp at c0 c1 c2 e0 e1 e2 z0 z1 z2
  clear hc he hz
  obtain ⟨x', A', n', c', hX, hxb, -, d0, d1, d2, hlq⟩ := (HBq.out.es.mor (HM0.out.trans' HM3.out)).at_ i (by rw [HN.out]; exact hil2)
  rw [HEq2.out.1] at d0
  rw [HEq2.out.2] at d1
  subst hX
  have HKp := Lib.hid (fun w' (h' : Mor w3 w') => show (w'.cell? ⟨bP, 1, none⟩ = some (.slice (some x') m k) ∧ w'.cell? ⟨bX, 0, none⟩ = some (.string ky) ∧ w'.cell? ⟨bX, 1, none⟩ = some (.int .i64 dy) ∧ w'.cell? ⟨bX, 2, none⟩ = some (.slice B p q) ∧ w'.cell? (x'.add (i * 3)) = some (.string ky2) ∧ w'.cell? ⟨(x'.add (i * 3)).block, (x'.add (i * 3)).off + 1, none⟩ = some (.int .i64 dy2) ∧ w'.cell? ⟨(x'.add (i * 3)).block, (x'.add (i * 3)).off + 2, none⟩ = some (.slice A' n' c')) from by
    have hp := HP.out _ (HM3.out.trans' h')
    have he := HX.out _ (HM3.out.trans' h')
    exact ⟨by rw [hp.cell]; rfl, by rw [he.cell]; rfl, by rw [he.cell]; rfl, by rw [he.cell]; rfl, (h'.below.cell (p := x'.add (i * 3)) (by rw [addb]; exact hxb)).trans d0, (h'.below.cell (p := ⟨(x'.add (i * 3)).block, (x'.add (i * 3)).off + 1, none⟩) (by rw [addb]; exact hxb)).trans d1, (h'.below.cell (p := ⟨(x'.add (i * 3)).block, (x'.add (i * 3)).off + 2, none⟩) (by rw [addb]; exact hxb)).trans d2⟩)
  have HSm3 := Lib.hid (fun w' (h : Mor w3 w') => HSm.out w' ((HM0.out.trans' HM3.out).trans' h) A' n' c' (hlq.mor h))
  clear hlq HSm
  go_wp2_with fail
  go_region_held3 (fun w' => w'.cell? ⟨bP, 1, none⟩ = some (.slice (some x') m k) ∧ w'.cell? ⟨bX, 0, none⟩ = some (.string ky) ∧ w'.cell? ⟨bX, 1, none⟩ = some (.int .i64 dy) ∧ w'.cell? ⟨bX, 2, none⟩ = some (.slice B p q) ∧ w'.cell? (x'.add (i * 3)) = some (.string ky2) ∧ w'.cell? ⟨(x'.add (i * 3)).block, (x'.add (i * 3)).off + 1, none⟩ = some (.int .i64 dy2) ∧ w'.cell? ⟨(x'.add (i * 3)).block, (x'.add (i * 3)).off + 2, none⟩ = some (.slice A' n' c')) (exact HKp.out _ (by repeat (first | exact Mor.refl _ | apply Mor.alloc | apply Mor.more | apply Mor.drewN | apply Mor.drew))) (first | (go_at_call 49; (with_reducible refine (HSm3.out _ (by repeat (first | exact Mor.refl _ | apply Mor.alloc | apply Mor.more | apply Mor.drewN | apply Mor.drew))).mono ?_); rintro e w8 ⟨rfl, bs3, dr3, rfl⟩))
  obtain ⟨w4, hwn⟩ : ∃ wn, wn = more w3 bs3 dr3 := ⟨_, rfl⟩
  rw [← hwn]
  have HM4 := Lib.hid (show Mor w0 w4 by rw [hwn]; exact HM3.out.trans' (Mor.refl _).more)
  clear hwn HKp d0 d1 d2 hxb HSm3
  clear c0 c1 c2 cl e0 e1 e2 ef0 ef1 ef2 el z0 z1 z2 zf0 zf1 zf2 zl
  have hc := HP.out _ HM4.out
  have c0 := hc.cell 0
  have c1 := hc.cell 1
  have c2 := hc.cell 2
  have cl := hc.lt
  have he := HX.out _ HM4.out
  have e0 := he.cell 0
  have e1 := he.cell 1
  have e2 := he.cell 2
  have ef0 := he.frozen 0
  have ef1 := he.frozen 1
  have ef2 := he.frozen 2
  have el := he.lt
  have hz := HR.out _ HM4.out
  have z0 := hz.cell 0
  have z1 := hz.cell 1
  have z2 := hz.cell 2
  have zf0 := hz.frozen 0
  have zf1 := hz.frozen 1
  have zf2 := hz.frozen 2
  have zl := hz.lt
  simp at c0 c1 c2 e0 e1 e2 z0 z1 z2
  clear hc he hz
  go_wp2_with fail
  refine (HCp.out _ (HM0.out.trans' HM4.out)).mono ?_
  rintro e w5 ⟨vA, vX, rfl, hown, hm⟩
  obtain ⟨A5, c5, X5, k5, rfl, rfl, hbq5⟩ := hown.bq
  have HM5 := Lib.hid (HM4.out.trans' hm)
  have HO5 := Lib.hid hown
  have HSz := Lib.hid (show w.heap.size ≤ w4.heap.size ∧ bR < w4.heap.size from ⟨(HM0.out.trans' HM4.out).below.size, (HR.out _ HM4.out).lt⟩)
  clear hm hown hbq5
  clear c0 c1 c2 cl e0 e1 e2 ef0 ef1 ef2 el z0 z1 z2 zf0 zf1 zf2 zl
  have hc := HP.out _ HM5.out
  have c0 := hc.cell 0
  have c1 := hc.cell 1
  have c2 := hc.cell 2
  have cl := hc.lt
  have he := HX.out _ HM5.out
  have e0 := he.cell 0
  have e1 := he.cell 1
  have e2 := he.cell 2
  have ef0 := he.frozen 0
  have ef1 := he.frozen 1
  have ef2 := he.frozen 2
  have el := he.lt
  have hz := HR.out _ HM5.out
  have z0 := hz.cell 0
  have z1 := hz.cell 1
  have z2 := hz.cell 2
  have zf0 := hz.frozen 0
  have zf1 := hz.frozen 1
  have zf2 := hz.frozen 2
  have zl := hz.lt
  simp at c0 c1 c2 e0 e1 e2 z0 z1 z2
  clear hc he hz
  have HSh := Lib.hid HEq.out.2.2
  have HE9 := Lib.hid (fun w9 (h : w9 = (((w5.setCell ⟨bR, 0, none⟩ (.slice A5 n c5)).setCell ⟨bR, 1, none⟩ (.slice X5 m k5)).setCell ⟨bR, 2, none⟩ (.int .i64 sh))) => put3 (w := w) _ _ _ (HM0.out.trans' HM5.out) (HR.out _ HM5.out) HbR.out.1 h)
  rw [HSh.out]
  go_wp2_with fail
  obtain ⟨w9, hw9⟩ : ∃ w9, w9 = (((w5.setCell ⟨bR, 0, none⟩ (.slice A5 n c5)).setCell ⟨bR, 1, none⟩ (.slice X5 m k5)).setCell ⟨bR, 2, none⟩ (.int .i64 sh)) := ⟨_, rfl⟩
  rw [← hw9]
  obtain ⟨⟨q0, q1, q2⟩, q3⟩ := HE9.out w9 hw9
  have HW9 := Lib.hid hw9
  clear hw9
  refine bodyPost_ret (by simp [results, Try.results22, go_sem, q0, q1, q2]; try rfl) rfl ?_
  refine ⟨A5, n, c5, X5, m, k5, by rw [HSh.out], ?_, q3⟩
  rw [HW9.out]
  exact (((HO5.out.setlt HSz.out.2).setlt HSz.out.2).setlt HSz.out.2).base HSz.out.1
end Go.Proofs.Ytpgefclnplmlkaa
