/- The walk of book.Post (printed by gpost.py). -/
import Derived.Test.YtdpphneebikdpaaPTopStockZ1
import Derived.Test.YtdpphneebikdpaaPTopStockZ2
import Derived.Test.YtdpphneebikdpaaPTopStockZ3
import Derived.Test.YtdpphneebikdpaaPTopStockZ4
import Derived.Test.YtdpphneebikdpaaPTopStockZ5
import Derived.Test.YtdpphneebikdpaaPTopStockZ6
import Derived.Test.YtdpphneebikdpaaPTopStockZ7
import Derived.Test.YtdpphneebikdpaaPTopStockZ8
import Derived.Test.YtdpphneebikdpaaPTopStockZ9
import Derived.Test.YtdpphneebikdpaaPTopStockZ10
import Derived.Test.YtdpphneebikdpaaPTopStockZ11
import Derived.Test.YtdpphneebikdpaaPTopStockZ12
import Derived.Test.YtdpphneebikdpaaPTopStockZ13
import Derived.Test.YtdpphneebikdpaaPTopStockZ14
import Derived.Test.YtdpphneebikdpaaPTopStockZ15
import Derived.Test.YtdpphneebikdpaaPTopStockZ16
import Derived.Test.YtdpphneebikdpaaPTopStockZ17
import Derived.Test.YtdpphneebikdpaaPTopStockZ18
import Derived.Test.YtdpphneebikdpaaRows
import Derived.BigQuiet
import Derived.BigRegion
import Derived.Carry
import Derived.DataElems
import Derived.Deep.DeepCutAuto
import Derived.Deep.LoopGhost
import Derived.Deep.QuietTactic
import Derived.Deep.RegionHeld3
import Derived.Deep.RegionLaw
import Derived.Deep.RegionWith
import Derived.Deep.SlicePairs
import Derived.Deep.Slices
import Derived.Deep.Strs
import Derived.Handy
import Derived.Laws.AppendOwn
import Derived.Laws.CopyOwn
import Derived.Laws.CopyRow
import Derived.Laws.Cover1
import Derived.Laws.Externs
import Derived.Laws.NewBlocks
import Derived.Lib.AppendZerosOnto
import Derived.Lib.Bytealg
import Derived.Lib.Hide
import Derived.Lib.Overlaps
import Derived.Lib.SliceRun
import Derived.Lib.Walk
import Derived.Maps.Own
import Derived.Maps.OwnSet
import Derived.Maps.Views
import Derived.OpenShut
import Derived.Outline
import Derived.OwnWalk
import Derived.PlainAid
import Derived.ProofKit
import Derived.RegionTactic
import Derived.Shelf.Abstract
import Derived.Shelf.RegionOpenPlain
import Derived.Sort.Walk0
import Derived.StringKeys
import Derived.WalkKit
import Derived.WalkSpells
namespace Go.Proofs.Ytdpphneebikdpaa
open Go.ChangeShapes Go.WideShapes Go.ChangeAt Go.RowKit Go.PlainAid
set_option linter.unusedVariables false
set_option maxRecDepth 100000

theorem acc_len {ac : List Ln} (h : acc ac = 0) : ac.length ≤ 24 := by
  unfold acc at h; split at h <;> omega
def PostYes (w : World) (b : Bok) (e : Ending) (w' : World) : Prop :=
  ∃ A n c X m k, e = .returned (.tuple #[bv A n c X m k b.shut, .int .i64 0]) ∧ OwnB w' w.heap.size (.slice A n c) (.slice X m k) n m b ∧ Mor w w'

end Go.Proofs.Ytdpphneebikdpaa

/- The walk of book.Post (printed by gpost.py). -/
namespace Go.Proofs.Ytdpphneebikdpaa
open Go.ChangeShapes Go.WideShapes Go.ChangeAt Go.RowKit Go.PlainAid
set_option linter.unusedVariables false
set_option maxRecDepth 100000


set_option maxRecDepth 100000 in
set_option maxHeartbeats 1600000 in
theorem post_same (A : Option Addr) (n c : Nat) (X : Option Addr) (m k : Nat) (b : Bok) (x : En) (B : Option Addr) (p q : Nat) (w : World) (hb : Bq w A n c X m k b) (hx : Lq w B p q x.ls) (hks : x.key.size ≤ maxLen) (hc : bookc b = 0) (he : enc x = 0) (hf : 0 ≤ findE b.en x.key) (hne : ne b.en (findE b.en x.key).toNat = x) :
    Calls Try.prog 19 #[bv A n c X m k b.shut, .agg #[.string x.key, .int .i64 x.day, .slice B p q]] w (PostYes w b) := by
  have HBq := Lib.hid hb
  have HXq := Lib.hid hx
  have HKs := Lib.hid hks
  have HCk := Lib.hid (fun w' (h : Mor w w') => bcheck_any A n c X m k b w' (hb.mor h))
  have HEk := Lib.hid (fun w' (h : Mor w w') => check_any x.key x.day B p q x.ls w' hks (hx.si.mor h) hx.length hx.le (Nat.le_trans hx.le hx.max) hx.str)
  rw [show entc x.key x.day x.ls = enc x from rfl] at HEk
  rw [hc] at HCk
  rw [he] at HEk
  have HBO := Lib.hid ((bookc_iff b).1 hc)
  have HEO := Lib.hid he
  have hm60 : m ≤ 60 := by rw [← hb.length]; exact ((bookc_iff b).1 hc).len
  have hn24 : n ≤ 24 := by rw [← hb.ac.length]; exact (acc_len ((bookc_iff b).1 hc).ac)
  have hp12 : p ≤ 12 := by rw [← hx.length]; exact (linec_ok (entc_ok he).2.2.2).1
  have HFi := Lib.hid (fun w' (h : Mor w w') => find_en A n c X m k b.shut b.en x.key w' (hb.es.mor h) hb.length (by omega))
  have HKn := Lib.hid (fun w' (h : Mor w w') => known_any A n c X m k b.shut B p q b.ac x w' (hb.ac.si.mor h) hb.ac.length (by omega) (hx.si.mor h) hx.length (by omega))
  have HCp := Lib.hid (fun w' (h : Mor w w') => copied_any A n c X m k b w' (hb.mor h) (by omega) (by omega) (fun y hy => by have := (linec_ok (entc_ok (((bookc_iff b).1 hc).enc y hy)).2.2.2).1; omega))
  have hil : (findE b.en x.key).toNat < b.en.length := by
    rcases findE_cases b.en x.key with ⟨e, _⟩ | ⟨i, hi, e, _⟩
    · rw [e] at hf; omega
    · rw [e]; simpa using hi
  obtain ⟨i, hi⟩ : ∃ i : Nat, findE b.en x.key = i := ⟨(findE b.en x.key).toNat, by omega⟩
  rw [hi] at HFi hne hil
  simp only [Int.toNat_natCast] at hne hil
  have HSm := Lib.hid (fun w' (h : Mor w w') A' n' c' (hq : Lq w' A' n' c' (ne b.en i).ls) => esame_any (ne b.en i) x A' B n' c' p q w' hq (hx.mor h))
  rw [decide_eq_true hne] at HSm
  have HF := Lib.hid (show (5 : Int) = 5 from rfl)
  have hi0 : (0 : Int) ≤ (i : Int) := by omega
  have him : (i : Int) < (m : Int) := by rw [← hb.length]; omega
  have hil2 : i < m := by omega
  have HN := Lib.hid hb.length
  clear hc he hf hi hne hil
  generalize hky : x.key = ky at *
  generalize hdy : x.day = dy at *
  generalize hsh : b.shut = sh at *
  have HEq := Lib.hid (And.intro hky (And.intro hdy hsh))
  clear hb hx hks hky hdy hsh
  generalize hky2 : (ne b.en i).key = ky2 at *
  generalize hdy2 : (ne b.en i).day = dy2 at *
  have HEq2 := Lib.hid (And.intro hky2 hdy2)
  clear hky2 hdy2
  go_enter Try.func19, Try.ntmps19
  go_wp2_with fail
  have hP0 := ((Bk.new w 41 #[.slice A n c, .slice X m k, .int .i64 sh]).alloc (.cells #[.string ky, .int .i64 dy, .slice B p q] 47)).alloc (.cells #[.slice none 0 0, .slice none 0 0, .int .i64 0] 41)
  have hX0 := (Bk.new (w.alloc (.cells #[.slice A n c, .slice X m k, .int .i64 sh] 41)) 47 #[.string ky, .int .i64 dy, .slice B p q]).alloc (.cells #[.slice none 0 0, .slice none 0 0, .int .i64 0] 41)
  have hR0 := Bk.new ((w.alloc (.cells #[.slice A n c, .slice X m k, .int .i64 sh] 41)).alloc (.cells #[.string ky, .int .i64 dy, .slice B p q] 47)) 41 #[.slice none 0 0, .slice none 0 0, .int .i64 0]
  have hM0 := (((Mor.refl w).alloc (o := .cells #[.slice A n c, .slice X m k, .int .i64 sh] 41)).alloc (o := .cells #[.string ky, .int .i64 dy, .slice B p q] 47)).alloc (o := .cells #[.slice none 0 0, .slice none 0 0, .int .i64 0] 41)
  rw [← sz1, ← sz1] at hR0
  rw [← sz1] at hX0
  obtain ⟨bP, hbP⟩ : ∃ b, b = w.heap.size := ⟨_, rfl⟩
  rw [← hbP] at hP0 hX0 hR0 ⊢
  obtain ⟨bX, hbX⟩ : ∃ b, b = bP + 1 := ⟨_, rfl⟩
  rw [← hbX] at hX0 hR0 ⊢
  obtain ⟨bR, hbR⟩ : ∃ b, b = bX + 1 := ⟨_, rfl⟩
  rw [← hbR] at hR0 ⊢
  generalize ((w.alloc (.cells #[.slice A n c, .slice X m k, .int .i64 sh] 41)).alloc (.cells #[.string ky, .int .i64 dy, .slice B p q] 47)).alloc (.cells #[.slice none 0 0, .slice none 0 0, .int .i64 0] 41) = w0 at *
  have HP := Lib.hid (fun w' (h : Mor w0 w') => hP0.mor h)
  have HX := Lib.hid (fun w' (h : Mor w0 w') => hX0.mor h)
  have HR := Lib.hid (fun w' (h : Mor w0 w') => hR0.mor h)
  have HM0 := Lib.hid hM0
  have HbR := Lib.hid (And.intro (show w.heap.size ≤ bR by omega) (And.intro (show w.heap.size ≤ bX by omega) (And.intro (show bX < bR by omega) (And.intro (show bP < bX by omega) (show bR < w0.heap.size from hR0.lt)))))
  clear hP0 hX0 hR0 hM0 hbP hbX hbR
  refine (HCk.out _ HM0.out).mono ?_
  rintro e w1 ⟨rfl, hm⟩
  have HM1 := Lib.hid hm
  clear hm
  have hc := HP.out _ HM1.out
  have c0 := hc.cell 0
  have c1 := hc.cell 1
  have c2 := hc.cell 2
  have cl := hc.lt
  have he := HX.out _ HM1.out
  have e0 := he.cell 0
  have e1 := he.cell 1
  have e2 := he.cell 2
  have ef0 := he.frozen 0
  have ef1 := he.frozen 1
  have ef2 := he.frozen 2
  have el := he.lt
  have hz := HR.out _ HM1.out
  have z0 := hz.cell 0
  have z1 := hz.cell 1
  have z2 := hz.cell 2
  have zf0 := hz.frozen 0
  have zf1 := hz.frozen 1
  have zf2 := hz.frozen 2
  have zl := hz.lt
  simp at c0 c1 c2 e0 e1 e2 z0 z1 z2
  clear hc he hz
  go_wp2_with fail
  refine (HEk.out _ (HM0.out.trans' HM1.out)).mono ?_
  rintro e w2 ⟨rfl, hm⟩
  have HM2 := Lib.hid (HM1.out.trans' hm)
  clear hm
  clear c0 c1 c2 cl e0 e1 e2 ef0 ef1 ef2 el z0 z1 z2 zf0 zf1 zf2 zl
  have hc := HP.out _ HM2.out
  have c0 := hc.cell 0
  have c1 := hc.cell 1
  have c2 := hc.cell 2
  have cl := hc.lt
  have he := HX.out _ HM2.out
  have e0 := he.cell 0
  have e1 := he.cell 1
  have e2 := he.cell 2
  have ef0 := he.frozen 0
  have ef1 := he.frozen 1
  have ef2 := he.frozen 2
  have el := he.lt
  have hz := HR.out _ HM2.out
  have z0 := hz.cell 0
  have z1 := hz.cell 1
  have z2 := hz.cell 2
  have zf0 := hz.frozen 0
  have zf1 := hz.frozen 1
  have zf2 := hz.frozen 2
  have zl := hz.lt
  simp at c0 c1 c2 e0 e1 e2 z0 z1 z2
  clear hc he hz
  go_wp2_with fail
  refine (HFi.out _ (HM0.out.trans' HM2.out)).mono ?_
  rintro e w3 ⟨rfl, hm⟩
  have HM3 := Lib.hid (HM2.out.trans' hm)
  clear hm
  clear c0 c1 c2 cl e0 e1 e2 ef0 ef1 ef2 el z0 z1 z2 zf0 zf1 zf2 zl
  have hc := HP.out _ HM3.out
  have c0 := hc.cell 0
  have c1 := hc.cell 1
  have c2 := hc.cell 2
  have cl := hc.lt
  have he := HX.out _ HM3.out
  have e0 := he.cell 0
  have e1 := he.cell 1
  have e2 := he.cell 2
  have ef0 := he.frozen 0
  have ef1 := he.frozen 1
  have ef2 := he.frozen 2
  have el := he.lt
  have hz := HR.out _ HM3.out
  have z0 := hz.cell 0
  have z1 := hz.cell 1
  have z2 := hz.cell 2
  have zf0 := hz.frozen 0
  have zf1 := hz.frozen 1
  have zf2 := hz.frozen 2
  have zl := hz.lt
  simp at c0 c1 c2 e0 e1 e2 z0 z1 z2
  clear hc he hz
  obtain ⟨x', A', n', c', hX, hxb, -, d0, d1, d2, hlq⟩ := (HBq.out.es.mor (HM0.out.trans' HM3.out)).at_ i (by rw [HN.out]; exact hil2)
  rw [HEq2.out.1] at d0
  rw [HEq2.out.2] at d1
  subst hX
  have HKp := Lib.hid (fun w' (h' : Mor w3 w') => show (w'.cell? ⟨bP, 1, none⟩ = some (.slice (some x') m k) ∧ w'.cell? ⟨bX, 0, none⟩ = some (.string ky) ∧ w'.cell? ⟨bX, 1, none⟩ = some (.int .i64 dy) ∧ w'.cell? ⟨bX, 2, none⟩ = some (.slice B p q) ∧ w'.cell? (x'.add (i * 3)) = some (.string ky2) ∧ w'.cell? ⟨(x'.add (i * 3)).block, (x'.add (i * 3)).off + 1, none⟩ = some (.int .i64 dy2) ∧ w'.cell? ⟨(x'.add (i * 3)).block, (x'.add (i * 3)).off + 2, none⟩ = some (.slice A' n' c')) from by
    have hp := HP.out _ (HM3.out.trans' h')
    have he := HX.out _ (HM3.out.trans' h')
    exact ⟨by rw [hp.cell]; rfl, by rw [he.cell]; rfl, by rw [he.cell]; rfl, by rw [he.cell]; rfl, (h'.below.cell (p := x'.add (i * 3)) (by rw [addb]; exact hxb)).trans d0, (h'.below.cell (p := ⟨(x'.add (i * 3)).block, (x'.add (i * 3)).off + 1, none⟩) (by rw [addb]; exact hxb)).trans d1, (h'.below.cell (p := ⟨(x'.add (i * 3)).block, (x'.add (i * 3)).off + 2, none⟩) (by rw [addb]; exact hxb)).trans d2⟩)
  have HSm3 := Lib.hid (fun w' (h : Mor w3 w') => HSm.out w' ((HM0.out.trans' HM3.out).trans' h) A' n' c' (hlq.mor h))
  clear hlq HSm
  go_wp2_with fail
  go_region_held3 (fun w' => w'.cell? ⟨bP, 1, none⟩ = some (.slice (some x') m k) ∧ w'.cell? ⟨bX, 0, none⟩ = some (.string ky) ∧ w'.cell? ⟨bX, 1, none⟩ = some (.int .i64 dy) ∧ w'.cell? ⟨bX, 2, none⟩ = some (.slice B p q) ∧ w'.cell? (x'.add (i * 3)) = some (.string ky2) ∧ w'.cell? ⟨(x'.add (i * 3)).block, (x'.add (i * 3)).off + 1, none⟩ = some (.int .i64 dy2) ∧ w'.cell? ⟨(x'.add (i * 3)).block, (x'.add (i * 3)).off + 2, none⟩ = some (.slice A' n' c')) (exact HKp.out _ (by repeat (first | exact Mor.refl _ | apply Mor.alloc | apply Mor.more | apply Mor.drewN | apply Mor.drew))) (first | (go_at_call 40; (with_reducible refine (HSm3.out _ (by repeat (first | exact Mor.refl _ | apply Mor.alloc | apply Mor.more | apply Mor.drewN | apply Mor.drew))).mono ?_); rintro e w8 ⟨rfl, bs3, dr3, rfl⟩))
  obtain ⟨w4, hwn⟩ : ∃ wn, wn = more w3 bs3 dr3 := ⟨_, rfl⟩
  rw [← hwn]
  have HM4 := Lib.hid (show Mor w0 w4 by rw [hwn]; exact HM3.out.trans' (Mor.refl _).more)
  clear hwn HKp d0 d1 d2 hxb HSm3
  clear c0 c1 c2 cl e0 e1 e2 ef0 ef1 ef2 el z0 z1 z2 zf0 zf1 zf2 zl
  have hc := HP.out _ HM4.out
  have c0 := hc.cell 0
  have c1 := hc.cell 1
  have c2 := hc.cell 2
  have cl := hc.lt
  have he := HX.out _ HM4.out
  have e0 := he.cell 0
  have e1 := he.cell 1
  have e2 := he.cell 2
  have ef0 := he.frozen 0
  have ef1 := he.frozen 1
  have ef2 := he.frozen 2
  have el := he.lt
  have hz := HR.out _ HM4.out
  have z0 := hz.cell 0
  have z1 := hz.cell 1
  have z2 := hz.cell 2
  have zf0 := hz.frozen 0
  have zf1 := hz.frozen 1
  have zf2 := hz.frozen 2
  have zl := hz.lt
  simp at c0 c1 c2 e0 e1 e2 z0 z1 z2
  clear hc he hz
  go_wp2_with fail
  refine (HCp.out _ (HM0.out.trans' HM4.out)).mono ?_
  rintro e w5 ⟨vA, vX, rfl, hown, hm⟩
  obtain ⟨A5, c5, X5, k5, rfl, rfl, hbq5⟩ := hown.bq
  have HM5 := Lib.hid (HM4.out.trans' hm)
  have HO5 := Lib.hid hown
  have HSz := Lib.hid (show w.heap.size ≤ w4.heap.size ∧ bR < w4.heap.size from ⟨(HM0.out.trans' HM4.out).below.size, (HR.out _ HM4.out).lt⟩)
  clear hm hown hbq5
  clear c0 c1 c2 cl e0 e1 e2 ef0 ef1 ef2 el z0 z1 z2 zf0 zf1 zf2 zl
  have hc := HP.out _ HM5.out
  have c0 := hc.cell 0
  have c1 := hc.cell 1
  have c2 := hc.cell 2
  have cl := hc.lt
  have he := HX.out _ HM5.out
  have e0 := he.cell 0
  have e1 := he.cell 1
  have e2 := he.cell 2
  have ef0 := he.frozen 0
  have ef1 := he.frozen 1
  have ef2 := he.frozen 2
  have el := he.lt
  have hz := HR.out _ HM5.out
  have z0 := hz.cell 0
  have z1 := hz.cell 1
  have z2 := hz.cell 2
  have zf0 := hz.frozen 0
  have zf1 := hz.frozen 1
  have zf2 := hz.frozen 2
  have zl := hz.lt
  simp at c0 c1 c2 e0 e1 e2 z0 z1 z2
  clear hc he hz
  have HSh := Lib.hid HEq.out.2.2
  have HE9 := Lib.hid (fun w9 (h : w9 = (((w5.setCell ⟨bR, 0, none⟩ (.slice A5 n c5)).setCell ⟨bR, 1, none⟩ (.slice X5 m k5)).setCell ⟨bR, 2, none⟩ (.int .i64 sh))) => put3 (w := w) _ _ _ (HM0.out.trans' HM5.out) (HR.out _ HM5.out) HbR.out.1 h)
  rw [HSh.out]
  go_wp2_with fail
  obtain ⟨w9, hw9⟩ : ∃ w9, w9 = (((w5.setCell ⟨bR, 0, none⟩ (.slice A5 n c5)).setCell ⟨bR, 1, none⟩ (.slice X5 m k5)).setCell ⟨bR, 2, none⟩ (.int .i64 sh)) := ⟨_, rfl⟩
  rw [← hw9]
  obtain ⟨⟨q0, q1, q2⟩, q3⟩ := HE9.out w9 hw9
  have HW9 := Lib.hid hw9
  clear hw9
  refine bodyPost_ret (by simp [results, Try.results19, go_sem, q0, q1, q2]; try rfl) rfl ?_
  refine ⟨A5, n, c5, X5, m, k5, by rw [HSh.out], ?_, q3⟩
  rw [HW9.out]
  exact (((HO5.out.setlt HSz.out.2).setlt HSz.out.2).setlt HSz.out.2).base HSz.out.1
end Go.Proofs.Ytdpphneebikdpaa

/- The walk of book.Post (printed by gpost.py). -/
namespace Go.Proofs.Ytdpphneebikdpaa
open Go.ChangeShapes Go.WideShapes Go.ChangeAt Go.RowKit Go.PlainAid
set_option linter.unusedVariables false
set_option maxRecDepth 100000


set_option maxRecDepth 100000 in
set_option maxHeartbeats 1600000 in
theorem post_new_ok (A : Option Addr) (n c : Nat) (X : Option Addr) (m k : Nat) (b : Bok) (x : En) (B : Option Addr) (p q : Nat) (w : World) (hb : Bq w A n c X m k b) (hx : Lq w B p q x.ls) (hks : x.key.size ≤ maxLen) (hc : bookc b = 0) (he : enc x = 0) (hf : ¬ 0 ≤ findE b.en x.key) (hkn : knownB b.ac x = true) (hs : ¬ x.day ≤ b.shut) (h60 : m ≠ 60) :
    Calls Try.prog 19 #[bv A n c X m k b.shut, .agg #[.string x.key, .int .i64 x.day, .slice B p q]] w (PostYes w { b with en := ins x b.en }) := by
  have HBq := Lib.hid hb
  have HXq := Lib.hid hx
  have HKs := Lib.hid hks
  have HCk := Lib.hid (fun w' (h : Mor w w') => bcheck_any A n c X m k b w' (hb.mor h))
  have HEk := Lib.hid (fun w' (h : Mor w w') => check_any x.key x.day B p q x.ls w' hks (hx.si.mor h) hx.length hx.le (Nat.le_trans hx.le hx.max) hx.str)
  rw [show entc x.key x.day x.ls = enc x from rfl] at HEk
  rw [hc] at HCk
  rw [he] at HEk
  have HBO := Lib.hid ((bookc_iff b).1 hc)
  have HEO := Lib.hid he
  have hm60 : m ≤ 60 := by rw [← hb.length]; exact ((bookc_iff b).1 hc).len
  have hn24 : n ≤ 24 := by rw [← hb.ac.length]; exact (acc_len ((bookc_iff b).1 hc).ac)
  have hp12 : p ≤ 12 := by rw [← hx.length]; exact (linec_ok (entc_ok he).2.2.2).1
  have HFi := Lib.hid (fun w' (h : Mor w w') => find_en A n c X m k b.shut b.en x.key w' (hb.es.mor h) hb.length (by omega))
  have HKn := Lib.hid (fun w' (h : Mor w w') => known_any A n c X m k b.shut B p q b.ac x w' (hb.ac.si.mor h) hb.ac.length (by omega) (hx.si.mor h) hx.length (by omega))
  have HCp := Lib.hid (fun w' (h : Mor w w') => copied_any A n c X m k b w' (hb.mor h) (by omega) (by omega) (fun y hy => by have := (linec_ok (entc_ok (((bookc_iff b).1 hc).enc y hy)).2.2.2).1; omega))
  rw [hkn] at HKn
  have HCl := Lib.hid (fun w' (h : Mor w w') => show Calls Try.prog 43 #[.slice B p q] w' fun e w2 => ∃ A2 c2, e = .returned (.slice A2 p c2) ∧ w2.ownsRow w'.heap.size 50 2 (.slice A2 p c2) p (flat pc x.ls) ∧ Mor w' w2 from
    (clone_lq B p q x.ls w' (hx.mor h) (by omega)).mono (by
      rintro e w2 ⟨v, rfl, ho, hm2⟩
      obtain ⟨A', c', rfl, _, _, _⟩ := own_shape ho
      exact ⟨A', c', rfl, ho, hm2⟩))
  have HBs := Lib.hid (fun w' X' k' B' p' q' (h : Es w' X' b.en) => bsearch_en X' m k' b.en x B' p' q' w' h hb.length (by omega) (fun i hi => enc_days (((bookc_iff b).1 hc).enc _ (by rw [ne_eq _ _ (by rw [hb.length]; exact hi)]; exact List.getElem_mem _))) (enc_days he).1 (enc_days he).2 ((bookc_iff b).1 hc).sorted)
  have hil : insAt x b.en ≤ m := by rw [← hb.length]; exact insAt_le x b.en
  have HIe := Lib.hid (ins_eq x b.en)
  have HN := Lib.hid hb.length
  have h60' : ((m : Int) == 60) = false := by simp; omega
  generalize findE b.en x.key = fi at *
  clear hc he hkn h60
  generalize hky : x.key = ky at *
  generalize hdy : x.day = dy at *
  generalize hsh : b.shut = sh at *
  have HEq := Lib.hid (And.intro hky (And.intro hdy hsh))
  clear hb hx hks hky hdy hsh
  go_enter Try.func19, Try.ntmps19
  go_wp2_with fail
  have hP0 := ((Bk.new w 41 #[.slice A n c, .slice X m k, .int .i64 sh]).alloc (.cells #[.string ky, .int .i64 dy, .slice B p q] 47)).alloc (.cells #[.slice none 0 0, .slice none 0 0, .int .i64 0] 41)
  have hX0 := (Bk.new (w.alloc (.cells #[.slice A n c, .slice X m k, .int .i64 sh] 41)) 47 #[.string ky, .int .i64 dy, .slice B p q]).alloc (.cells #[.slice none 0 0, .slice none 0 0, .int .i64 0] 41)
  have hR0 := Bk.new ((w.alloc (.cells #[.slice A n c, .slice X m k, .int .i64 sh] 41)).alloc (.cells #[.string ky, .int .i64 dy, .slice B p q] 47)) 41 #[.slice none 0 0, .slice none 0 0, .int .i64 0]
  have hM0 := (((Mor.refl w).alloc (o := .cells #[.slice A n c, .slice X m k, .int .i64 sh] 41)).alloc (o := .cells #[.string ky, .int .i64 dy, .slice B p q] 47)).alloc (o := .cells #[.slice none 0 0, .slice none 0 0, .int .i64 0] 41)
  rw [← sz1, ← sz1] at hR0
  rw [← sz1] at hX0
  obtain ⟨bP, hbP⟩ : ∃ b, b = w.heap.size := ⟨_, rfl⟩
  rw [← hbP] at hP0 hX0 hR0 ⊢
  obtain ⟨bX, hbX⟩ : ∃ b, b = bP + 1 := ⟨_, rfl⟩
  rw [← hbX] at hX0 hR0 ⊢
  obtain ⟨bR, hbR⟩ : ∃ b, b = bX + 1 := ⟨_, rfl⟩
  rw [← hbR] at hR0 ⊢
  generalize ((w.alloc (.cells #[.slice A n c, .slice X m k, .int .i64 sh] 41)).alloc (.cells #[.string ky, .int .i64 dy, .slice B p q] 47)).alloc (.cells #[.slice none 0 0, .slice none 0 0, .int .i64 0] 41) = w0 at *
  have HP := Lib.hid (fun w' (h : Mor w0 w') => hP0.mor h)
  have HX := Lib.hid (fun w' (h : Mor w0 w') => hX0.mor h)
  have HR := Lib.hid (fun w' (h : Mor w0 w') => hR0.mor h)
  have HM0 := Lib.hid hM0
  have HbR := Lib.hid (And.intro (show w.heap.size ≤ bR by omega) (And.intro (show w.heap.size ≤ bX by omega) (And.intro (show bX < bR by omega) (And.intro (show bP < bX by omega) (show bR < w0.heap.size from hR0.lt)))))
  clear hP0 hX0 hR0 hM0 hbP hbX hbR
  refine (HCk.out _ HM0.out).mono ?_
  rintro e w1 ⟨rfl, hm⟩
  have HM1 := Lib.hid hm
  clear hm
  have hc := HP.out _ HM1.out
  have c0 := hc.cell 0
  have c1 := hc.cell 1
  have c2 := hc.cell 2
  have cl := hc.lt
  have he := HX.out _ HM1.out
  have e0 := he.cell 0
  have e1 := he.cell 1
  have e2 := he.cell 2
  have ef0 := he.frozen 0
  have ef1 := he.frozen 1
  have ef2 := he.frozen 2
  have el := he.lt
  have hz := HR.out _ HM1.out
  have z0 := hz.cell 0
  have z1 := hz.cell 1
  have z2 := hz.cell 2
  have zf0 := hz.frozen 0
  have zf1 := hz.frozen 1
  have zf2 := hz.frozen 2
  have zl := hz.lt
  simp at c0 c1 c2 e0 e1 e2 z0 z1 z2
  clear hc he hz
  go_wp2_with fail
  refine (HEk.out _ (HM0.out.trans' HM1.out)).mono ?_
  rintro e w2 ⟨rfl, hm⟩
  have HM2 := Lib.hid (HM1.out.trans' hm)
  clear hm
  clear c0 c1 c2 cl e0 e1 e2 ef0 ef1 ef2 el z0 z1 z2 zf0 zf1 zf2 zl
  have hc := HP.out _ HM2.out
  have c0 := hc.cell 0
  have c1 := hc.cell 1
  have c2 := hc.cell 2
  have cl := hc.lt
  have he := HX.out _ HM2.out
  have e0 := he.cell 0
  have e1 := he.cell 1
  have e2 := he.cell 2
  have ef0 := he.frozen 0
  have ef1 := he.frozen 1
  have ef2 := he.frozen 2
  have el := he.lt
  have hz := HR.out _ HM2.out
  have z0 := hz.cell 0
  have z1 := hz.cell 1
  have z2 := hz.cell 2
  have zf0 := hz.frozen 0
  have zf1 := hz.frozen 1
  have zf2 := hz.frozen 2
  have zl := hz.lt
  simp at c0 c1 c2 e0 e1 e2 z0 z1 z2
  clear hc he hz
  go_wp2_with fail
  refine (HFi.out _ (HM0.out.trans' HM2.out)).mono ?_
  rintro e w3 ⟨rfl, hm⟩
  have HM3 := Lib.hid (HM2.out.trans' hm)
  clear hm
  clear c0 c1 c2 cl e0 e1 e2 ef0 ef1 ef2 el z0 z1 z2 zf0 zf1 zf2 zl
  have hc := HP.out _ HM3.out
  have c0 := hc.cell 0
  have c1 := hc.cell 1
  have c2 := hc.cell 2
  have cl := hc.lt
  have he := HX.out _ HM3.out
  have e0 := he.cell 0
  have e1 := he.cell 1
  have e2 := he.cell 2
  have ef0 := he.frozen 0
  have ef1 := he.frozen 1
  have ef2 := he.frozen 2
  have el := he.lt
  have hz := HR.out _ HM3.out
  have z0 := hz.cell 0
  have z1 := hz.cell 1
  have z2 := hz.cell 2
  have zf0 := hz.frozen 0
  have zf1 := hz.frozen 1
  have zf2 := hz.frozen 2
  have zl := hz.lt
  simp at c0 c1 c2 e0 e1 e2 z0 z1 z2
  clear hc he hz
  go_wp2_with fail
  refine (HKn.out _ (HM0.out.trans' HM3.out)).mono ?_
  rintro e w4 ⟨rfl, hm⟩
  have HM4 := Lib.hid (HM3.out.trans' hm)
  clear hm
  clear c0 c1 c2 cl e0 e1 e2 ef0 ef1 ef2 el z0 z1 z2 zf0 zf1 zf2 zl
  have hc := HP.out _ HM4.out
  have c0 := hc.cell 0
  have c1 := hc.cell 1
  have c2 := hc.cell 2
  have cl := hc.lt
  have he := HX.out _ HM4.out
  have e0 := he.cell 0
  have e1 := he.cell 1
  have e2 := he.cell 2
  have ef0 := he.frozen 0
  have ef1 := he.frozen 1
  have ef2 := he.frozen 2
  have el := he.lt
  have hz := HR.out _ HM4.out
  have z0 := hz.cell 0
  have z1 := hz.cell 1
  have z2 := hz.cell 2
  have zf0 := hz.frozen 0
  have zf1 := hz.frozen 1
  have zf2 := hz.frozen 2
  have zl := hz.lt
  simp at c0 c1 c2 e0 e1 e2 z0 z1 z2
  clear hc he hz
  go_wp2_with fail
  refine (HCp.out _ (HM0.out.trans' HM4.out)).mono ?_
  rintro e w5 ⟨vA, vX, rfl, hown, hm⟩
  obtain ⟨A5, c5, X5, k5, rfl, rfl, hbq5⟩ := hown.bq
  have HM5 := Lib.hid (HM4.out.trans' hm)
  have HO5 := Lib.hid hown
  obtain ⟨base, hbase⟩ : ∃ b, b = w4.heap.size := ⟨_, rfl⟩
  rw [← hbase] at HO5
  have HSz := Lib.hid (show w.heap.size ≤ base ∧ bR < base ∧ base ≤ w5.heap.size from ⟨by rw [hbase]; exact (HM0.out.trans' HM4.out).below.size, by rw [hbase]; exact (HR.out _ HM4.out).lt, by rw [hbase]; exact hm.below.size⟩)
  rw [HEq.out.2.2]
  clear hm hown hbq5 hbase
  clear c0 c1 c2 cl e0 e1 e2 ef0 ef1 ef2 el z0 z1 z2 zf0 zf1 zf2 zl
  have hc := HP.out _ HM5.out
  have c0 := hc.cell 0
  have c1 := hc.cell 1
  have c2 := hc.cell 2
  have cl := hc.lt
  have he := HX.out _ HM5.out
  have e0 := he.cell 0
  have e1 := he.cell 1
  have e2 := he.cell 2
  have ef0 := he.frozen 0
  have ef1 := he.frozen 1
  have ef2 := he.frozen 2
  have el := he.lt
  have hz := HR.out _ HM5.out
  have z0 := hz.cell 0
  have z1 := hz.cell 1
  have z2 := hz.cell 2
  have zf0 := hz.frozen 0
  have zf1 := hz.frozen 1
  have zf2 := hz.frozen 2
  have zl := hz.lt
  simp at c0 c1 c2 e0 e1 e2 z0 z1 z2
  clear hc he hz
  go_wp2_with fail
  refine (HCl.out _ ((HM0.out.trans' HM5.out).alloc)).mono ?_
  rintro e w6 ⟨A2, c2', rfl, hrow, hm⟩
  have hO6 := (HO5.out.mor (Mor.refl _).alloc).mor hm
  have hbO := (Bk.new w5 41 #[.slice A5 n c5, .slice X5 m k5, .int .i64 sh]).mor hm
  obtain ⟨bO, hbO2⟩ : ∃ b, b = w5.heap.size := ⟨_, rfl⟩
  rw [← hbO2] at hbO ⊢
  have HbO := Lib.hid (show bR < bO ∧ base ≤ bO by have := HSz.out; omega)
  have HO6 := Lib.hid hO6
  have HBO6 := Lib.hid hbO
  have HRow := Lib.hid (own_base hrow (show base ≤ _ by have := HSz.out; show _ ≤ (w5.heap.push _).size; rw [Array.size_push]; omega))
  have HM6 := Lib.hid ((HM5.out.alloc).trans' hm)
  clear hrow hm hO6 hbO hbO2
  clear c0 c1 c2 cl e0 e1 e2 ef0 ef1 ef2 el z0 z1 z2 zf0 zf1 zf2 zl
  have hc := HP.out _ HM6.out
  have c0 := hc.cell 0
  have c1 := hc.cell 1
  have c2 := hc.cell 2
  have cl := hc.lt
  have he := HX.out _ HM6.out
  have e0 := he.cell 0
  have e1 := he.cell 1
  have e2 := he.cell 2
  have ef0 := he.frozen 0
  have ef1 := he.frozen 1
  have ef2 := he.frozen 2
  have el := he.lt
  have hz := HR.out _ HM6.out
  have z0 := hz.cell 0
  have z1 := hz.cell 1
  have z2 := hz.cell 2
  have zf0 := hz.frozen 0
  have zf1 := hz.frozen 1
  have zf2 := hz.frozen 2
  have zl := hz.lt
  simp at c0 c1 c2 e0 e1 e2 z0 z1 z2
  clear hc he hz
  have hbX7 := (HX.out _ HM6.out).set_ 2 (.slice A2 p c2')
  have hbO7 := HBO6.out.set_other bX 2 (.slice A2 p c2') (by have := HbO.out; have := HbR.out; omega)
  have hbR7 := (HR.out _ HM6.out).set_other bX 2 (.slice A2 p c2') (by have := HbR.out; omega)
  have hO7 := HO6.out.setlt (i := 2) (u := .slice A2 p c2') (show bX < base by have := HSz.out; have := HbR.out; omega)
  have hR7 := own_set (i := 2) (u := .slice A2 p c2') HRow.out (show bX < base by have := HSz.out; have := HbR.out; omega)
  have hM7 : Mor w (w6.setCell ⟨bX, 2, none⟩ (.slice A2 p c2')) := Mor.of_below ((HM0.out.trans' HM6.out).below.setCell (p := ⟨bX, 2, none⟩) HbR.out.2.1 _)
  obtain ⟨w7, hw7⟩ : ∃ w7, w7 = w6.setCell ⟨bX, 2, none⟩ (.slice A2 p c2') := ⟨_, rfl⟩
  rw [← hw7] at hbX7 hbO7 hbR7 hO7 hR7 hM7
  have HW7 := Lib.hid hw7
  have HBX7 := Lib.hid (show Bk w7 bX 47 #[.string ky, .int .i64 dy, .slice A2 p c2'] by simpa using hbX7)
  have HBO7 := Lib.hid hbO7
  have HBR7 := Lib.hid hbR7
  have HO7 := Lib.hid hO7
  have HR7 := Lib.hid hR7
  have HM7 := Lib.hid hM7
  have HSz7 := Lib.hid (show base ≤ w7.heap.size by rw [hw7]; have := HSz.out; have := HM6.out; have h5 := HBO6.out.lt; have := HbO.out; simp [World.setCell]; omega)
  have o0 := HBO6.out.cell 0
  have o1 := HBO6.out.cell 1
  have o2 := HBO6.out.cell 2
  have ol := HBO6.out.lt
  have hne1 : bO ≠ bX := by have := HbO.out; have := HbR.out; omega
  have hne2 : bX ≠ bO := fun e => hne1 e.symm
  simp at o0 o1 o2
  obtain ⟨_, _, X7, k7, e7a, e7b, hbq7⟩ := HO7.out.bq
  injection e7a with e7a1 _ e7a3
  injection e7b with e7b1 _ e7b3
  subst e7a1 e7a3 e7b1 e7b3
  have HBq7 := Lib.hid hbq7
  clear hbX7 hbO7 hbR7 hO7 hR7 hM7 hbq7
  have HBs7 := Lib.hid (HBs.out w7 X5 k5 A2 p c2' HBq7.out.es)
  rw [HW7.out] at HBs7
  clear hw7
  go_wp2_with fail
  refine HBs7.out.mono ?_
  rintro e w8 ⟨fnd, rfl, hm⟩
  rw [← HW7.out] at hm
  have HM8 := Lib.hid (HM7.out.trans' hm)
  have HBX8 := Lib.hid (HBX7.out.mor hm)
  have HBO8 := Lib.hid (HBO7.out.mor hm)
  have HBR8 := Lib.hid (HBR7.out.mor hm)
  have HO8 := Lib.hid (HO7.out.mor hm)
  have HR8 := Lib.hid (own_mor HR7.out hm)
  have HSz8 := Lib.hid (Nat.le_trans HSz7.out hm.below.size)
  clear hm
  clear c0 c1 c2 cl e0 e1 e2 ef0 ef1 ef2 el z0 z1 z2 zf0 zf1 zf2 zl
  clear o0 o1 o2 ol
  have x0 := HBX8.out.cell 0
  have x1 := HBX8.out.cell 1
  have x2 := HBX8.out.cell 2
  have xl := HBX8.out.lt
  have o0 := HBO8.out.cell 0
  have o1 := HBO8.out.cell 1
  have o2 := HBO8.out.cell 2
  have ol := HBO8.out.lt
  simp at x0 x1 x2 o0 o1 o2
  obtain ⟨qs, hqs⟩ := HO8.out.es
  have HQs := Lib.hid hqs
  clear hqs
  go_wp2_with fail
  have hE9 := HQs.out.mor ((Mor.refl w8).alloc (o := .cells #[.string ky, .int .i64 dy, .slice A2 p c2'] 47))
  have hR9 := own_mor HR8.out ((Mor.refl w8).alloc (o := .cells #[.string ky, .int .i64 dy, .slice A2 p c2'] 47))
  have hO9 := HO8.out.mor ((Mor.refl w8).alloc (o := .cells #[.string ky, .int .i64 dy, .slice A2 p c2'] 47))
  have hbO9 := HBO8.out.alloc (.cells #[.string ky, .int .i64 dy, .slice A2 p c2'] 47)
  have hbR9 := HBR8.out.alloc (.cells #[.string ky, .int .i64 dy, .slice A2 p c2'] 47)
  have hb9 := Bk.new w8 47 (ec ⟨ky, dy, A2, p, c2'⟩).toArray
  have hM9 := HM8.out.alloc (o := .cells #[.string ky, .int .i64 dy, .slice A2 p c2'] 47)
  have hS9 : w8.heap.size < (w8.alloc (.cells #[.string ky, .int .i64 dy, .slice A2 p c2'] 47)).heap.size := by rw [← sz1]; omega
  have hvb : ∀ g, (Value.slice X5 m k5).ownBlock = some g → g ≠ w8.heap.size := fun g hg => by have := (own_blk HQs.out.row hg).1; omega
  have hb9' : Bk (w8.alloc (.cells #[.string ky, .int .i64 dy, .slice A2 p c2'] 47)) w8.heap.size 47 (ec ⟨ky, dy, A2, p, c2'⟩).toArray := hb9
  clear hb9
  generalize w8.alloc (.cells #[.string ky, .int .i64 dy, .slice A2 p c2'] 47) = w9 at *
  have HE9 := Lib.hid hE9
  have HR9 := Lib.hid hR9
  have HO9 := Lib.hid hO9
  have HBO9 := Lib.hid hbO9
  have HBR9 := Lib.hid hbR9
  have HM9 := Lib.hid hM9
  have HSz9 := Lib.hid (Nat.le_of_lt (Nat.lt_of_le_of_lt HSz8.out hS9))
  have HIn := Lib.hid (insert_any base (.slice X5 m k5) m (insAt x b.en) qs w8.heap.size ⟨ky, dy, A2, p, c2'⟩ w9 hE9.row hE9.ql hb9' (fun e => hvb _ e rfl) hil (by omega) HSz9.out)
  clear hE9 hR9 hO9 hbO9 hbR9 hb9' hM9 hS9 hvb x0 x1 x2 xl o0 o1 o2 ol
  refine HIn.out.mono ?_
  rintro e w10 ⟨v', rfl, hrow, hg⟩
  obtain ⟨X6, k6, rfl, -, -, -⟩ := own_shape hrow
  have hrowE := HE9.out.row
  have hbO10 := HBO9.out.growT hrowE hg (by decide)
  have hbR10 := HBR9.out.growT hrowE hg (by decide)
  have hA10 := own_grows HO9.out.ac hrowE hg (by decide)
  have hR10 := own_grows HR9.out hrowE hg (by decide)
  have hEn10 : ∀ i, i < m → OwnE w10 base (qe qs i) (ne b.en i) := fun i hi => by
    have h := HE9.out.ent i hi
    exact ⟨h.key, h.day, own_grows h.row hrowE hg (by decide), h.len, h.ks, h.str⟩
  have hx10 : OwnE w10 base ⟨ky, dy, A2, p, c2'⟩ x := ⟨HEq.out.1.symm, HEq.out.2.1.symm, hR10, HXq.out.length, by rw [HEq.out.1]; exact HKs.out, HXq.out.str⟩
  have hEs10 := OwnEs.insert (insAt x b.en) hil HE9.out.ql HN.out hrow hEn10 hx10
  rw [← HIe.out] at hEs10
  have hM10 : Below w.heap.size w w10 := HM9.out.below.grown hg HM9.out.below.size (fun g hgg => by have := (own_blk hrowE hgg).2.1; have := HSz.out; omega)
  have HEs10 := Lib.hid hEs10
  have HA10 := Lib.hid hA10
  have HBO10 := Lib.hid hbO10
  have HBR10 := Lib.hid hbR10
  have HM10 := Lib.hid hM10
  have o0 := hbO10.cell 0
  have o1 := hbO10.cell 1
  have o2 := hbO10.cell 2
  have of1 := hbO10.frozen 1
  have ol := hbO10.lt
  have z0 := hbR10.cell 0
  have z1 := hbR10.cell 1
  have z2 := hbR10.cell 2
  have zf0 := hbR10.frozen 0
  have zf1 := hbR10.frozen 1
  have zf2 := hbR10.frozen 2
  have zl := hbR10.lt
  have hne3 : bO ≠ bR := by have := HbO.out; omega
  have hne4 : bR ≠ bO := fun e => hne3 e.symm
  simp at o0 o1 o2 z0 z1 z2
  clear hrow hg hrowE hbO10 hbR10 hA10 hR10 hEn10 hx10 hEs10 hM10
  obtain ⟨w11, hw11⟩ : ∃ w11, w11 = w10.setCell ⟨bO, 1, none⟩ (.slice X6 (m + 1) k6) := ⟨_, rfl⟩
  have HBR11 := Lib.hid (show Bk w11 bR 41 #[.slice none 0 0, .slice none 0 0, .int .i64 0] by rw [hw11]; exact HBR10.out.set_other _ _ _ hne4)
  have HM11 := Lib.hid (show Mor w w11 by rw [hw11]; exact Mor.of_below (HM10.out.setCell (p := ⟨bO, 1, none⟩) (show w.heap.size ≤ bO by have := HbO.out; have := HSz.out; omega) _))
  have HB11 := Lib.hid (show OwnB w11 base (.slice A5 n c5) (.slice X6 (m + 1) k6) n (m + 1) { b with en := ins x b.en } by
    rw [hw11]
    exact ⟨own_setT HA10.out HBO10.out (by decide), HO9.out.al, HO9.out.astr, _, HEs10.out.setT HBO10.out⟩)
  have HW11 := Lib.hid hw11
  clear hw11
  have HE12 := Lib.hid (fun w12 (h : w12 = (((w11.setCell ⟨bR, 0, none⟩ (.slice A5 n c5)).setCell ⟨bR, 1, none⟩ (.slice X6 (m + 1) k6)).setCell ⟨bR, 2, none⟩ (.int .i64 sh))) => put3 (w := w) _ _ _ HM11.out HBR11.out HbR.out.1 h)
  rw [HW11.out] at HE12
  go_wp2_with fail
  obtain ⟨w12, hw12⟩ : ∃ w12, w12 = ((((w10.setCell ⟨bO, 1, none⟩ (.slice X6 (m + 1) k6)).setCell ⟨bR, 0, none⟩ (.slice A5 n c5)).setCell ⟨bR, 1, none⟩ (.slice X6 (m + 1) k6)).setCell ⟨bR, 2, none⟩ (.int .i64 sh)) := ⟨_, rfl⟩
  rw [← hw12]
  obtain ⟨⟨q0, q1, q2⟩, q3⟩ := HE12.out w12 hw12
  have HW12 := Lib.hid hw12
  clear hw12
  refine bodyPost_ret (by simp [results, Try.results19, go_sem, q0, q1, q2]; try rfl) rfl ?_
  refine ⟨A5, n, c5, X6, m + 1, k6, by rw [← HEq.out.2.2], ?_, q3⟩
  rw [HW12.out, ← HW11.out]
  have hbR0 : bR < base := HSz.out.2.1
  have hB11 := HB11.out
  rw [HEq.out.2.2] at hB11
  exact (((hB11.setlt hbR0).setlt hbR0).setlt hbR0).base HSz.out.1

end Go.Proofs.Ytdpphneebikdpaa

/- The walk of book.Post (printed by gpost.py). -/
namespace Go.Proofs.Ytdpphneebikdpaa
open Go.ChangeShapes Go.WideShapes Go.ChangeAt Go.RowKit Go.PlainAid
set_option linter.unusedVariables false
set_option maxRecDepth 100000

theorem post_yes (A : Option Addr) (n c : Nat) (X : Option Addr) (m k : Nat) (b : Bok) (x : En) (B : Option Addr) (p q : Nat) (w : World) (hb : Bq w A n c X m k b) (hx : Lq w B p q x.ls) (hks : x.key.size ≤ maxLen) (hc : postc b x = 0) :
    Calls Try.prog 19 #[bv A n c X m k b.shut, .agg #[.string x.key, .int .i64 x.day, .slice B p q]] w (PostYes w (postb b x)) := by
  obtain ⟨h1, h2, h3⟩ := post_pre hc
  by_cases hf : 0 ≤ findE b.en x.key
  · rw [if_pos hf] at h3
    rw [show postb b x = b by unfold postb; rw [if_pos hf]]
    by_cases h4 : ne b.en (findE b.en x.key).toNat = x
    · exact post_same A n c X m k b x B p q w hb hx hks ((bookc_iff b).2 h1) h2 hf h4
    · rw [if_neg h4] at h3; omega
  · rw [if_neg hf] at h3
    rw [show postb b x = { b with en := ins x b.en } by unfold postb; rw [if_neg hf]]
    by_cases h4 : knownB b.ac x = false
    · rw [if_pos h4] at h3; omega
    · rw [if_neg h4] at h3
      by_cases h5 : x.day ≤ b.shut
      · rw [if_pos h5] at h3; omega
      · rw [if_neg h5] at h3
        by_cases h6 : b.en.length = 60
        · rw [if_pos h6] at h3; omega
        · exact post_new_ok A n c X m k b x B p q w hb hx hks ((bookc_iff b).2 h1) h2 hf (by simpa using h4) h5 (by rw [← hb.length]; exact h6)


end Go.Proofs.Ytdpphneebikdpaa

/- The walks of talref.Same, talref.SameBook (of the same), talkeep.plain, day. -/
namespace Go.Proofs.Ytdpphneebikdpaa
open Go.ChangeShapes Go.WideShapes Go.ChangeAt Go.RowKit Go.PlainAid
set_option linter.unusedVariables false
set_option maxRecDepth 100000

abbrev s20 : ByteArray := { data := #[50, 48] }
abbrev s30 : ByteArray := { data := #[51, 48] }
abbrev s50 : ByteArray := { data := #[53, 48] }
end Go.Proofs.Ytdpphneebikdpaa

/- The walk of talkeep.bookBegun. -/
namespace Go.Proofs.Ytdpphneebikdpaa
open Go.ChangeShapes Go.WideShapes Go.ChangeAt Go.RowKit Go.PlainAid
set_option linter.unusedVariables false
set_option maxRecDepth 100000

/-- what Post answers, be it refused or not -/
theorem postYes_bq {w w' : World} {b : Bok} {e : Ending} (h : PostYes w b e w') : ∃ A n c X m k, e = .returned (.tuple #[bv A n c X m k b.shut, .int .i64 0]) ∧ Bq w' A n c X m k b ∧ OwnB w' w.heap.size (.slice A n c) (.slice X m k) n m b ∧ Mor w w' := by
  obtain ⟨A, n, c, X, m, k, he, ho, hm⟩ := h
  obtain ⟨A', c', X', k', e1, e2, hb⟩ := ho.bq
  injection e1 with e1 _ e3
  injection e2 with e4 _ e6
  subst e1 e3 e4 e6
  exact ⟨A, n, c, X, m, k, he, hb, ho, hm⟩
theorem lq_two {w : World} {g : Nat} {a b : ByteArray} {m n : Int} (h : Si w (some ⟨g, 0, none⟩) [(a, m), (b, n)]) (ha : a.size ≤ maxLen) (hb : b.size ≤ maxLen) : Lq w (some ⟨g, 0, none⟩) 2 2 [(a, m), (b, n)] :=
  ⟨h, rfl, Nat.le_refl _, by unfold maxLen; omega, (fun h => by cases h), fun i hi => by
    match i, hi with
    | 0, _ => exact ha
    | 1, _ => exact hb⟩
theorem two_max : (2 : Nat) ≤ maxLen := by unfold maxLen; omega
end Go.Proofs.Ytdpphneebikdpaa

/- taltop's plain book, its entries, and begun. -/
namespace Go.Proofs.Ytdpphneebikdpaa
open Go.ChangeShapes Go.WideShapes Go.ChangeAt Go.RowKit Go.PlainAid
set_option linter.unusedVariables false
set_option maxRecDepth 100000

abbrev t15 : ByteArray := { data := #[49, 53] }
/-- taltop's plain book -/
def topB : Bok := ⟨[(s10, 0), (t15, 0), (s20, 1), (s30, 2), (s40, 3), (s50, 4)], [], -1⟩
theorem top_str : ∀ i, i < 6 → (cd topB.ac i).size ≤ maxLen := by
  intro i hi
  have : (cd topB.ac i).size ≤ 2 := by
    match i, hi with
    | 0, _ => decide
    | 1, _ => decide
    | 2, _ => decide
    | 3, _ => decide
    | 4, _ => decide
    | 5, _ => decide
  unfold maxLen; omega
theorem topplain_any (w : World) :
    Calls Try.prog 17 #[] w fun e w' => ∃ g, e = .returned (bv (some ⟨g, 0, none⟩) 6 6 none 0 0 (-1)) ∧ Bq w' (some ⟨g, 0, none⟩) 6 6 none 0 0 topB ∧ Mor w w' := by
  go_enter Try.func17, Try.ntmps17
  go_wp2_with fail
  go_returns
  refine ⟨w.heap.size + 1, rfl, ⟨⟨Si.of_rd (Rd.new (flat pc topB.ac) (sz1 _ _) ?_), rfl, Nat.le_refl _, by unfold maxLen; omega, (fun h => by cases h), top_str⟩, .inl rfl, rfl, Nat.le_refl _, by unfold maxLen; omega, fun _ => rfl⟩, (Mor.refl _).alloc.alloc⟩
  simp [flat, pc, topB]

/-- a digit -/
def dg (n : Nat) : ByteArray := ⟨#[UInt8.ofNat (48 + n)]⟩
theorem dg_ext (n : Nat) (h : n < 10) : (⟨#[48, 49, 50, 51, 52, 53, 54, 55, 56, 57]⟩ : ByteArray).extract n (n + 1) = dg n := by
  have : ∀ n : Fin 10, (⟨#[48, 49, 50, 51, 52, 53, 54, 55, 56, 57]⟩ : ByteArray).extract n.1 (n.1 + 1) = dg n.1 := by decide +kernel
  exact this ⟨n, h⟩
/-- a number's text, below a thousand -/
def decB (n : Nat) : ByteArray := if n < 10 then dg n else if n < 100 then dg (n / 10) ++ dg (n % 10) else dg (n / 10 / 10) ++ dg (n / 10 % 10) ++ dg (n % 10)
theorem dec1 (n : Nat) (w : World) (h : n < 10) :
    Calls Try.prog 68 #[.int .i64 n] w fun e w' => e = .returned (.string (dg n)) ∧ w = w' := by
  have hx := dg_ext n h
  have h1 : (n : Int) < 10 := by omega
  have h0 : (0 : Int) ≤ (n : Int) := by omega
  go_enter Try.func68, Try.ntmps68
  go_wp2_with fail
  go_ret
  exact ⟨rfl, rfl⟩
theorem dec2 (n : Nat) (w : World) (h : n < 100) :
    Calls Try.prog 68 #[.int .i64 n] w fun e w' => e = .returned (.string (if n < 10 then dg n else dg (n / 10) ++ dg (n % 10))) ∧ w = w' := by
  by_cases h10 : n < 10
  · rw [if_pos h10]; exact dec1 n w h10
  · rw [if_neg h10]
    obtain ⟨a, ha⟩ : ∃ a, n / 10 = a := ⟨_, rfl⟩
    obtain ⟨b, hb⟩ : ∃ b, n % 10 = b := ⟨_, rfl⟩
    have ea : Int.tdiv (n : Int) 10 = (a : Int) := by rw [Int.tdiv_eq_ediv_of_nonneg (by omega)]; omega
    have eb : Int.tmod (n : Int) 10 = (b : Int) := by rw [Int.tmod_eq_emod_of_nonneg (by omega)]; omega
    have ea' : (n : Int) / 10 = (a : Int) := by omega
    have eb' : (n : Int) % 10 = (b : Int) := by omega
    have HA := Lib.hid (fun w => dec1 a w (by omega))
    have HB := Lib.hid (fun w => dec1 b w (by omega))
    have h1 : ¬ (n : Int) < 10 := by omega
    have h0 : (0 : Int) ≤ (n : Int) := by omega
    rw [ha, hb]
    clear ha hb
    go_enter Try.func68, Try.ntmps68
    go_wp2_with (first | (go_at_call 68; (with_reducible refine (HA.out _).mono ?_); rintro e w1 ⟨rfl, rfl⟩) | (go_at_call 68; (with_reducible refine (HB.out _).mono ?_); rintro e w1 ⟨rfl, rfl⟩))
    go_ret
    exact ⟨rfl, rfl⟩
theorem dec3 (n : Nat) (w : World) (h : n < 1000) :
    Calls Try.prog 68 #[.int .i64 n] w fun e w' => e = .returned (.string (decB n)) ∧ w = w' := by
  by_cases h100 : n < 100
  · have e : decB n = if n < 10 then dg n else dg (n / 10) ++ dg (n % 10) := by
      unfold decB
      split
      · rfl
      · rfl
    rw [e]; exact dec2 n w h100
  · have e : decB n = (dg (n / 10 / 10) ++ dg (n / 10 % 10)) ++ dg (n % 10) := by
      unfold decB; rw [if_neg (by omega), if_neg h100]
    rw [e]
    obtain ⟨a, ha⟩ : ∃ a, n / 10 = a := ⟨_, rfl⟩
    obtain ⟨b, hb⟩ : ∃ b, n % 10 = b := ⟨_, rfl⟩
    have ea : Int.tdiv (n : Int) 10 = (a : Int) := by rw [Int.tdiv_eq_ediv_of_nonneg (by omega)]; omega
    have eb : Int.tmod (n : Int) 10 = (b : Int) := by rw [Int.tmod_eq_emod_of_nonneg (by omega)]; omega
    have ea' : (n : Int) / 10 = (a : Int) := by omega
    have eb' : (n : Int) % 10 = (b : Int) := by omega
    have HA := Lib.hid (fun w => dec2 a w (by omega))
    have HB := Lib.hid (fun w => dec1 b w (by omega))
    rw [if_neg (by omega)] at HA
    have h1 : ¬ (n : Int) < 10 := by omega
    have h0 : (0 : Int) ≤ (n : Int) := by omega
    rw [ha, hb]
    have hz1 : (dg (a / 10) ++ dg (a % 10)).size = 2 := rfl
    clear ha hb
    generalize dg (a / 10) ++ dg (a % 10) = s1 at *
    go_enter Try.func68, Try.ntmps68
    go_wp2_with (first | (go_at_call 68; (with_reducible refine (HA.out _).mono ?_); rintro e w1 ⟨rfl, rfl⟩) | (go_at_call 68; (with_reducible refine (HB.out _).mono ?_); rintro e w1 ⟨rfl, rfl⟩))
    go_ret
    exact ⟨rfl, rfl⟩

/-- the key of a number -/
def kyB (n : Nat) : ByteArray := { data := #[107] } ++ decB n
theorem decB_size (n : Nat) : 1 ≤ (decB n).size ∧ (decB n).size ≤ 3 := by
  unfold decB
  split
  · exact ⟨by show (1 : Nat) ≤ 1; omega, by show (1 : Nat) ≤ 3; omega⟩
  · split
    · exact ⟨by show (1 : Nat) ≤ 2; omega, by show (2 : Nat) ≤ 3; omega⟩
    · exact ⟨by show (1 : Nat) ≤ 3; omega, by show (3 : Nat) ≤ 3; omega⟩
theorem kyB_size (n : Nat) : (kyB n).size ≤ 4 := by
  have := decB_size n
  have e : (kyB n).size = 1 + (decB n).size := by unfold kyB; rw [ByteArray.size_append]; rfl
  omega
theorem kyB_max (n : Nat) : (kyB n).size ≤ maxLen := by have := kyB_size n; unfold maxLen; omega
theorem topkey_any (n : Nat) (w : World) (h : n < 1000) :
    Calls Try.prog 36 #[.int .i64 n] w fun e w' => e = .returned (.string (kyB n)) ∧ w = w' := by
  have HD := Lib.hid (fun w => dec3 n w h)
  have hz := decB_size n
  have hk : kyB n = { data := #[107] } ++ decB n := rfl
  rw [hk]
  generalize decB n = s at *
  clear hk
  go_enter Try.func36, Try.ntmps36
  go_wp2_with (go_at_call 68; (with_reducible refine (HD.out _).mono ?_); rintro e w1 ⟨rfl, rfl⟩)
  go_ret
  exact ⟨rfl, rfl⟩
theorem newAtT {w : World} {g : Nat} {t : TypeId} {cs : Array Value} (h : g = w.heap.size) : Bk (w.alloc (.cells cs t)) g t cs := by subst h; exact Bk.new w t cs
theorem moved_any (n : Nat) (at' amount : Int) (tc fr : ByteArray) (w : World) (h : n < 1000) (h1 : -9000000000000000 ≤ amount) (h2 : amount ≤ 9000000000000000) :
    Calls Try.prog 18 #[.int .i64 n, .int .i64 at', .int .i64 amount, .string tc, .string fr] w fun e w' => ∃ g, e = .returned (.agg #[.string (kyB n), .int .i64 at', .slice (some ⟨g, 0, none⟩) 2 2]) ∧ Bk w' g 50 (flat pc [(tc, amount), (fr, -amount)]).toArray ∧ w.heap.size ≤ g ∧ Mor w w' := by
  have HK := Lib.hid (fun w => topkey_any n w h)
  generalize kyB n = ky at *
  go_enter Try.func18, Try.ntmps18
  go_wp2_with (go_at_call 36; (with_reducible refine (HK.out _).mono ?_); rintro e w1 ⟨rfl, rfl⟩)
  go_returns
  exact ⟨w.heap.size + 1, rfl, newAtT (sz1 _ _), Nat.le_succ _, (Mor.refl _).alloc.alloc⟩
theorem bk_two {w : World} {g : Nat} {a b : ByteArray} {m n : Int} (h : Bk w g 50 (flat pc [(a, m), (b, n)]).toArray) (ha : a.size ≤ maxLen) (hb : b.size ≤ maxLen) : Lq w (some ⟨g, 0, none⟩) 2 2 [(a, m), (b, n)] := by
  refine lq_two (.inr ⟨_, rfl, h.lt, fun i hi => ?_⟩) ha hb
  rw [adds]
  have hc := fun j => h.cell j
  match i, hi with
  | 0, _ => exact ⟨hc 0, hc 1⟩
  | 1, _ => exact ⟨hc 2, hc 3⟩

theorem top_post : postc topB ⟨kyB 1, 5, [(s10, 7), (s40, -7)]⟩ = 0 := by decide +kernel
theorem top_bal : balv (postb topB ⟨kyB 1, 5, [(s10, 7), (s40, -7)]⟩) s10 5 = 7 ∧ balc (postb topB ⟨kyB 1, 5, [(s10, 7), (s40, -7)]⟩) s10 5 = 0 ∧ (postb topB ⟨kyB 1, 5, [(s10, 7), (s40, -7)]⟩).en.length = 1 := by decide +kernel

set_option maxHeartbeats 3200000 in
theorem topbegun_any (w : World) : Calls Try.prog 15 #[] w fun e w' => e = .returned (.bool true) ∧ Mor w w' := by
  obtain ⟨pb1, pb2, pb3⟩ := top_bal
  have HPb := Lib.hid (And.intro pb1 (And.intro pb2 pb3))
  have HPc := Lib.hid top_post
  have HMv := Lib.hid (fun w => moved_any 1 5 7 s10 s40 w (by omega) (by omega) (by omega))
  have hk1 : (kyB 1).size ≤ maxLen := kyB_max 1
  clear pb1 pb2 pb3
  generalize kyB 1 = ky at *
  go_enter Try.func15, Try.ntmps15
  go_wp2_with fail
  refine (topplain_any _).mono ?_
  rintro e w1 ⟨g, rfl, hq, hm⟩
  have HQ := Lib.hid hq
  have HM1 := Lib.hid hm
  clear hq hm
  go_wp2_with fail
  refine (HMv.out _).mono ?_
  rintro e w2 ⟨g2, rfl, hs, -, hm⟩
  have HQ2 := Lib.hid (HQ.out.mor hm)
  have HS := Lib.hid (bk_two hs two_max two_max)
  have HM2 := Lib.hid (HM1.out.trans' hm)
  clear hs hm HQ HM1
  go_wp2_with fail
  refine (post_yes _ _ _ _ _ _ topB ⟨ky, 5, [(s10, 7), (s40, -7)]⟩ _ _ _ _ HQ2.out HS.out hk1 HPc.out).mono ?_
  intro e w3 h3
  obtain ⟨A, n, c, X, m, k, rfl, hq, ho, hm⟩ := postYes_bq h3
  have hm1 : m = 1 := by rw [← hq.length]; exact HPb.out.2.2
  subst hm1
  have HQ3 := Lib.hid hq
  have HM3 := Lib.hid (HM2.out.trans' hm)
  clear hq hm ho h3 HQ2 HS HM2
  have HBa := Lib.hid (fun w' (h : Mor w3 w') => bal_any A n c X 1 k _ s10 5 w' (HQ3.out.mor h))
  rw [HPb.out.1, HPb.out.2.1] at HBa
  go_wp2_with fail
  refine (HBa.out _ (Mor.refl _).alloc).mono ?_
  rintro e w4 ⟨rfl, hm⟩
  have HM4 := Lib.hid (HM3.out.trans' ((Mor.refl w3).alloc.trans' hm))
  clear hm HBa
  go_wp2_with fail
  go_ret
  exact ⟨rfl, HM4.out⟩

end Go.Proofs.Ytdpphneebikdpaa

/- ContainsFunc at entries; what balances say, plainly. -/
namespace Go.Proofs.Ytdpphneebikdpaa
open Go.ChangeShapes Go.WideShapes Go.ChangeAt Go.RowKit Go.PlainAid
set_option linter.unusedVariables false
set_option maxRecDepth 100000

theorem balc_zero {b : Bok} {s : ByteArray} {d : Int} (h : balc b s d = 0) : BOk b ∧ hasB b.ac s = true ∧ 0 ≤ d ∧ d ≤ 292193 ∧ balv b s d = ofS b.en s 0 d := by
  have h0 := h
  unfold balc at h
  by_cases h1 : bookc b = 0
  · rw [if_neg (by simp [h1])] at h
    by_cases h2 : hasB b.ac s = false
    · rw [if_pos h2] at h; omega
    · rw [if_neg h2] at h
      by_cases h3 : d < 0 ∨ 292193 < d
      · rw [if_pos h3] at h; omega
      · exact ⟨(bookc_iff b).1 h1, by simpa using h2, by omega, by omega, by unfold balv; rw [h0]; rfl⟩
  · rw [if_pos h1] at h; exact absurd h h1
theorem balc_of {b : Bok} {s : ByteArray} {d : Int} (h1 : BOk b) (h2 : hasB b.ac s = true) (h3 : 0 ≤ d) (h4 : d ≤ 292193) : balc b s d = 0 := by
  unfold balc
  rw [if_neg (by simp [(bookc_iff b).2 h1]), if_neg (by simp [h2]), if_neg (by omega)]
theorem post_ac (b : Bok) (x : En) : (postb b x).ac = b.ac ∧ (postb b x).shut = b.shut := by
  unfold postb; split <;> exact ⟨rfl, rfl⟩
/-- what an entry adds -/
theorem post_of {b : Bok} {x : En} (h : postc b x = 0) (s : ByteArray) (f t : Int) : ofS (postb b x).en s f t = ofS b.en s f t + if 0 ≤ findE b.en x.key then 0 else enOf s f t x := by
  by_cases hf : 0 ≤ findE b.en x.key
  · rw [if_pos hf, (post_old h hf).2.2.2, Int.add_zero]
  · rw [if_neg hf, (post_new h hf).2.2.2.2.2.2]
    exact ofS_ins x b.en s f t
theorem post_len {b : Bok} {x : En} (h : postc b x = 0) : (postb b x).en.length = b.en.length + if 0 ≤ findE b.en x.key then 0 else 1 := by
  by_cases hf : 0 ≤ findE b.en x.key
  · rw [if_pos hf, (post_old h hf).2.2.2]; rfl
  · rw [if_neg hf, (post_new h hf).2.2.2.2.2.2]
    exact ins_len x b.en

end Go.Proofs.Ytdpphneebikdpaa

/- Plain laws of taltop's books: entries with keys of their own, posted in whatever order. -/
namespace Go.Proofs.Ytdpphneebikdpaa
open Go.ChangeShapes Go.WideShapes Go.ChangeAt Go.RowKit Go.PlainAid
set_option linter.unusedVariables false
set_option maxRecDepth 100000

/-- the number that a key stands for -/
def kyV (s : ByteArray) : Nat := (s.data.toList.drop 1).foldl (fun a c => a * 10 + (c.toNat - 48)) 0
theorem kyV_of : ∀ n : Fin 200, kyV (kyB n.1) = n.1 := by decide +kernel
theorem kyB_ok : ∀ n : Fin 200, keyB (kyB n.1) = true := by decide +kernel
theorem kyB_inj {m n : Nat} (hm : m < 200) (hn : n < 200) (h : kyB m = kyB n) : m = n := by
  have a := kyV_of ⟨m, hm⟩
  have b := kyV_of ⟨n, hn⟩
  simp only at a b
  rw [← a, ← b, h]
theorem two_linec {a b : ByteArray} {v : Int} (ha : codeB a = true) (hb : codeB b = true) (hab : a ≠ b) (h1 : -1000000000000 ≤ v) (h2 : v ≤ 1000000000000) (h3 : v ≠ 0) : linec [(a, v), (b, -v)] = 0 := by
  rw [linec_iff]
  refine ⟨by simp, by simp, by simp; omega, fun x hx => ?_, by simpa using hab⟩
  rcases List.mem_cons.1 hx with rfl | hx
  · exact ⟨ha, h1, h2, h3⟩
  · rcases List.mem_cons.1 hx with rfl | hx
    · exact ⟨hb, by simp only; omega, by simp only; omega, by simp only; omega⟩
    · cases hx
/-- a book of taltop's -/
structure Led (b : Bok) (U : Nat → Prop) : Prop where
  ok : BOk b
  ac : b.ac = topB.ac
  sh : b.shut = -1
  ky : ∀ y ∈ b.en, ∃ j, U j ∧ j < 200 ∧ y.key = kyB j
theorem topB_ok : BOk topB := (bookc_iff topB).1 (by decide +kernel)
theorem Led.start (U : Nat → Prop) : Led topB U := ⟨topB_ok, rfl, rfl, fun y hy => by cases hy⟩
theorem Led.post {b : Bok} {U : Nat → Prop} (h : Led b U) {n : Nat} (hn : n < 200) (hU : ¬ U n) {d : Int} {ls : List Ln} (he : linec ls = 0) (h0 : 0 ≤ d) (h9 : d ≤ 292193) (hk : ∀ l ∈ ls, hasB topB.ac l.1 = true) (hl : b.en.length < 60) :
    postc b ⟨kyB n, d, ls⟩ = 0 ∧ Led (postb b ⟨kyB n, d, ls⟩) (fun j => U j ∨ j = n) ∧ (∀ s f t, ofS (postb b ⟨kyB n, d, ls⟩).en s f t = ofS b.en s f t + enOf s f t ⟨kyB n, d, ls⟩) ∧ (postb b ⟨kyB n, d, ls⟩).en.length = b.en.length + 1 := by
  have hf : ¬ 0 ≤ findE b.en (kyB n) := by
    rcases findE_cases b.en (kyB n) with ⟨e, _⟩ | ⟨i, hi, _, hke⟩
    · rw [e]; omega
    · obtain ⟨j, hj, hj2, hy⟩ := h.ky _ (List.getElem_mem hi)
      rw [hke] at hy
      exact absurd (kyB_inj hn hj2 hy ▸ hj) hU
  have hec : enc ⟨kyB n, d, ls⟩ = 0 := by
    show entc (kyB n) d ls = 0
    unfold entc
    rw [if_neg (by simp [kyB_ok ⟨n, hn⟩]), if_neg (by omega)]
    exact he
  have hkn : knownB b.ac ⟨kyB n, d, ls⟩ = true := by
    unfold knownB
    rw [h.ac]
    exact List.all_eq_true.2 hk
  have hc : postc b ⟨kyB n, d, ls⟩ = 0 := by
    unfold postc
    rw [if_neg (by simp [(bookc_iff b).2 h.ok]), if_neg (by simp [hec]), if_neg hf, if_neg (by simp [hkn]), if_neg (by rw [h.sh]; simp only; omega), if_neg (by omega)]
  have hp : postb b ⟨kyB n, d, ls⟩ = { b with en := ins ⟨kyB n, d, ls⟩ b.en } := by unfold postb; rw [if_neg hf]
  refine ⟨hc, ⟨post_ok hc, (post_ac _ _).1.trans h.ac, (post_ac _ _).2.trans h.sh, fun y hy => ?_⟩, fun s f t => ?_, ?_⟩
  · rw [hp] at hy
    rcases mem_ins.1 hy with rfl | hy
    · exact ⟨n, .inr rfl, hn, rfl⟩
    · obtain ⟨j, h1, h2, h3⟩ := h.ky y hy
      exact ⟨j, .inl h1, h2, h3⟩
  · rw [post_of hc, if_neg hf]
  · rw [post_len hc, if_neg hf]
theorem Led.mono {b : Bok} {U V : Nat → Prop} (h : Led b U) (hUV : ∀ j, U j → V j) : Led b V :=
  ⟨h.ok, h.ac, h.sh, fun y hy => by obtain ⟨j, a, b⟩ := h.ky y hy; exact ⟨j, hUV j a, b⟩⟩
/-- a balance of such a book -/
theorem Led.bal {b : Bok} {U : Nat → Prop} (h : Led b U) {s : ByteArray} (hs : hasB topB.ac s = true) {d : Int} (h0 : 0 ≤ d) (h9 : d ≤ 292193) : balc b s d = 0 ∧ balv b s d = ofS b.en s 0 d := by
  have hc := balc_of (b := b) (s := s) (d := d) h.ok (by rw [h.ac]; exact hs) h0 h9
  exact ⟨hc, (balc_zero hc).2.2.2.2⟩
theorem top_has : hasB topB.ac s10 = true ∧ hasB topB.ac t15 = true ∧ hasB topB.ac s20 = true ∧ hasB topB.ac s40 = true ∧ hasB topB.ac s50 = true := by decide +kernel
theorem top_codes : codeB s10 = true ∧ codeB t15 = true ∧ codeB s20 = true ∧ codeB s40 = true ∧ codeB s50 = true := by decide +kernel
/-- what an entry of two lines adds to a balance -/
theorem two_of {a c s : ByteArray} {v : Int} {k : ByteArray} {d t : Int} (h0 : 0 ≤ d) (hac : a ≠ c) : enOf s 0 t ⟨k, d, [(a, v), (c, -v)]⟩ = if t < d then 0 else if a = s then v else if c = s then -v else 0 := by
  unfold enOf lnOf
  simp only [sm]
  by_cases ht : t < d
  · rw [if_pos (.inr ht), if_pos ht]
  · rw [if_neg (by omega), if_neg ht]
    by_cases h1 : a = s
    · rw [if_pos h1, if_pos h1, if_neg (fun e => hac (h1.trans e.symm))]; omega
    · rw [if_neg h1, if_neg h1]
      split <;> omega

end Go.Proofs.Ytdpphneebikdpaa

/- Plain law of TopStock: what is posted of moves keeps the stock's balance at what the lots cost. -/
namespace Go.Proofs.Ytdpphneebikdpaa
open Go.ChangeShapes Go.WideShapes Go.ChangeAt Go.RowKit Go.PlainAid Stb
set_option linter.unusedVariables false
set_option maxRecDepth 100000

/-- the amount that is posted of move i -/
def sta (xs : List Pr) (os : List Int) (i : Nat) : Int := if (ge xs i).1 < 0 then os.getD (negs xs i) 0 else (ge xs i).2
def stl (xs : List Pr) (os : List Int) (i : Nat) : List Ln := if (ge xs i).1 < 0 then [(s50, sta xs os i), (t15, -sta xs os i)] else [(t15, sta xs os i), (s10, -sta xs os i)]
/-- the book behind the first moves -/
def stb (xs : List Pr) (os : List Int) : Nat → Bok
  | 0 => topB
  | i + 1 => if sta xs os i = 0 then stb xs os i else postb (stb xs os i) ⟨kyB i, i, stl xs os i⟩
theorem fstep_len {s t : List Pr × List Int} {m : Pr} (h : fstep s m = some t) (hm : m.1 ≠ 0) : t.2.length = s.2.length + if m.1 < 0 then 1 else 0 := by
  unfold fstep at h
  split at h
  · injection h with h; subst h; rw [if_neg (by omega)]; rfl
  · rw [if_pos (by omega)]
    cases hq : takeF s.1 (-m.1) with
    | none => rw [hq] at h; cases h
    | some q => rw [hq] at h; injection h with h; subst h; simp
theorem fifoS_len {xs : List Pr} (hx : ∀ i, i < xs.length → okM (ge xs i)) {k : Nat} (hk : k ≤ xs.length) {s : List Pr × List Int} (h : fifoS xs k = some s) : s.2.length = negs xs k := by
  induction k generalizing s with
  | zero => injection h with h; subst h; rfl
  | succ k ih =>
    have e : fifoS xs (k + 1) = (fifoS xs k).bind fun s => fstep s (ge xs k) := rfl
    rw [e] at h
    cases hq : fifoS xs k with
    | none => rw [hq] at h; cases h
    | some q =>
      rw [hq] at h
      have := fstep_len h (by rcases hx k (by omega) with h | h <;> omega)
      rw [this, ih (by omega) hq]; rfl
theorem negs_mono (xs : List Pr) (i k : Nat) : negs xs i ≤ negs xs (i + k) := by
  induction k with
  | zero => exact Nat.le_refl _
  | succ k ih =>
    have e : negs xs (i + (k + 1)) = negs xs (i + k) + if (ge xs (i + k)).1 < 0 then 1 else 0 := rfl
    rw [e]; split <;> omega
theorem negs_lt {xs : List Pr} {i n : Nat} (hi : i < n) (h : (ge xs i).1 < 0) : negs xs i < negs xs n := by
  have e : negs xs (i + 1) = negs xs i + if (ge xs i).1 < 0 then 1 else 0 := rfl
  rw [if_pos h] at e
  have := negs_mono xs (i + 1) (n - (i + 1))
  rw [show i + 1 + (n - (i + 1)) = n by omega] at this
  omega
structure StI (xs : List Pr) (os : List Int) (k : Nat) : Prop where
  led : Led (stb xs os k) (fun j => j < k)
  len : (stb xs os k).en.length ≤ k
  a15 : ofS (stb xs os k).en t15 0 99 = kwd xs k - (os.take (negs xs k)).sum
  a50 : ofS (stb xs os k).en s50 0 99 = (os.take (negs xs k)).sum
theorem StI.start (xs : List Pr) (os : List Int) : StI xs os 0 := ⟨Led.start _, Nat.le_refl _, rfl, rfl⟩
theorem stl_linec {xs : List Pr} {os : List Int} {i : Nat} (h0 : sta xs os i ≠ 0) (h1 : 0 ≤ sta xs os i) (h2 : sta xs os i ≤ 1000000000000) : linec (stl xs os i) = 0 ∧ (∀ l ∈ stl xs os i, hasB topB.ac l.1 = true) := by
  obtain ⟨c10, c15, _, _, c50⟩ := top_codes
  obtain ⟨b10, b15, _, _, b50⟩ := top_has
  unfold stl
  split
  · refine ⟨two_linec c50 c15 (by decide) (by omega) h2 h0, fun l hl => ?_⟩
    rcases List.mem_cons.1 hl with rfl | hl
    · exact b50
    · rw [List.mem_singleton.1 hl]; exact b15
  · refine ⟨two_linec c15 c10 (by decide) (by omega) h2 h0, fun l hl => ?_⟩
    rcases List.mem_cons.1 hl with rfl | hl
    · exact b15
    · rw [List.mem_singleton.1 hl]; exact b10
/-- one move more -/
theorem StI.step {xs : List Pr} {os : List Int} {k : Nat} (h : StI xs os k) (hk : k < 40) (hm : okM (ge xs k)) (ho : (ge xs k).1 < 0 → negs xs k < os.length) (h1 : 0 ≤ sta xs os k) (h2 : sta xs os k ≤ 1000000000000) :
    StI xs os (k + 1) ∧ (sta xs os k ≠ 0 → postc (stb xs os k) ⟨kyB k, k, stl xs os k⟩ = 0) := by
  have en : negs xs (k + 1) = negs xs k + if (ge xs k).1 < 0 then 1 else 0 := rfl
  have ek : kwd xs (k + 1) = kwd xs k + (ge xs k).2 := rfl
  have hs : (os.take (negs xs (k + 1))).sum = (os.take (negs xs k)).sum + if (ge xs k).1 < 0 then sta xs os k else 0 := by
    rw [en]
    by_cases hn : (ge xs k).1 < 0
    · rw [if_pos hn, if_pos hn]
      have := ho hn
      rw [List.take_succ_eq_append_getElem this, List.sum_append]
      unfold sta
      rw [if_pos hn, List.getD_eq_getElem?_getD, List.getElem?_eq_getElem this]
      simp
    · rw [if_neg hn, if_neg hn]; simp
  have hc : (if (ge xs k).1 < 0 then (0 : Int) else sta xs os k) = (ge xs k).2 := by
    by_cases hn : (ge xs k).1 < 0
    · rw [if_pos hn]; rcases hm with h | h <;> omega
    · rw [if_neg hn]; unfold sta; rw [if_neg hn]
  by_cases h0 : sta xs os k = 0
  · have e : stb xs os (k + 1) = stb xs os k := by
      show (if sta xs os k = 0 then stb xs os k else _) = _
      rw [if_pos h0]
    refine ⟨⟨by rw [e]; exact h.led.mono fun j hj => Nat.lt_succ_of_lt hj, by rw [e]; have := h.len; omega, ?_, ?_⟩, fun hh => absurd h0 hh⟩
    · rw [e, h.a15, ek, hs, ← hc, h0]; split <;> omega
    · rw [e, h.a50, hs, h0]; split <;> omega
  · obtain ⟨l1, l2⟩ := stl_linec h0 h1 h2
    obtain ⟨p1, p2, p3, p4⟩ := h.led.post (n := k) (by omega) (fun hh => Nat.lt_irrefl _ hh) (d := k) (ls := stl xs os k) l1 (by omega) (by omega) l2 (by have := h.len; omega)
    have e : stb xs os (k + 1) = postb (stb xs os k) ⟨kyB k, k, stl xs os k⟩ := by
      show (if sta xs os k = 0 then stb xs os k else _) = _
      rw [if_neg h0]
    refine ⟨⟨by rw [e]; exact p2.mono fun j hj => by rcases hj with hj | rfl <;> omega, by rw [e, p4]; have := h.len; omega, ?_, ?_⟩, fun _ => p1⟩
    · rw [e, p3, h.a15, ek, hs, ← hc]
      unfold stl
      split
      · rw [two_of (by omega) (by decide), if_neg (by omega), if_neg (by decide), if_pos rfl]; omega
      · rw [two_of (by omega) (by decide), if_neg (by omega), if_pos rfl]; omega
    · rw [e, p3, h.a50, hs]
      unfold stl
      split
      · rw [two_of (by omega) (by decide), if_neg (by omega), if_pos rfl]
      · rw [two_of (by omega) (by decide), if_neg (by omega), if_neg (by decide), if_neg (by decide)]

theorem kwd_bd {xs : List Pr} (h : ∀ i, i < xs.length → okM (ge xs i)) {k : Nat} (hk : k ≤ xs.length) : 0 ≤ kwd xs k ∧ kwd xs k ≤ 1000000000000 * k := by
  induction k with
  | zero => simp [kwd]
  | succ k ih =>
    have := ih (by omega)
    have := h k (by omega)
    unfold okM at this
    show 0 ≤ kwd xs k + (ge xs k).2 ∧ kwd xs k + (ge xs k).2 ≤ 1000000000000 * ((k + 1 : Nat) : Int)
    omega
theorem sum_nnS {xs : List Int} (h : ∀ x ∈ xs, 0 ≤ x) : 0 ≤ xs.sum := by
  induction xs with
  | nil => simp
  | cons y ys ih =>
    have := h y (List.mem_cons_self)
    have := ih fun z hz => h z (List.mem_cons_of_mem _ hz)
    rw [List.sum_cons]; omega
theorem le_sumS {xs : List Int} (h : ∀ x ∈ xs, 0 ≤ x) {x : Int} (hx : x ∈ xs) : x ≤ xs.sum := by
  induction xs with
  | nil => cases hx
  | cons y ys ih =>
    have h1 := h y (List.mem_cons_self)
    have h2 := sum_nnS fun z hz => h z (List.mem_cons_of_mem _ hz)
    rw [List.sum_cons]
    rcases List.mem_cons.1 hx with rfl | hx
    · omega
    · have := ih (fun z hz => h z (List.mem_cons_of_mem _ hz)) hx; omega
/-- what went, each time and together -/
theorem outs_bd {xs : List Pr} (h : ∀ i, i < xs.length → okM (ge xs i)) {k : Nat} (hk : k ≤ xs.length) (h40 : k ≤ 40) {s : List Pr × List Int} (hF : FOk xs k s) :
    (∀ o ∈ s.2, 0 ≤ o ∧ o ≤ 40000000000000) ∧ 0 ≤ s.2.sum ∧ s.2.sum ≤ 40000000000000 ∧ 0 ≤ cst s.1 ∧ cst s.1 ≤ 40000000000000 ∧ kwd xs k - s.2.sum = cst s.1 := by
  have h1 := kwd_bd h hk
  have h2 := (lots_bd hF.ok).2.1
  have h3 := hF.cst
  have h4 := sum_nnS hF.nn
  refine ⟨fun o ho => ⟨hF.nn o ho, ?_⟩, h4, by omega, h2, by omega, by omega⟩
  have := le_sumS hF.nn ho
  omega

theorem cst_take_succ (xs : List Pr) (q : Nat) (h : q < xs.length) : cst (xs.take (q + 1)) = cst (xs.take q) + (ge xs q).2 := by
  rw [List.take_succ_eq_append_getElem h, cst_snoc]
  congr 2
  have := ge_some h
  rw [List.getElem?_eq_getElem h] at this
  injection this
theorem cst_take_bd {xs : List Pr} (h : ∀ p ∈ xs, okLs p) (q : Nat) : 0 ≤ cst (xs.take q) ∧ cst (xs.take q) ≤ cst xs := by
  have h1 := (lots_bd (xs := xs.take q) fun p hp => h p (List.mem_of_mem_take hp)).2.1
  have h2 := (lots_bd (xs := xs.drop q) fun p hp => h p (List.mem_of_mem_drop hp)).2.1
  have key : ∀ a b : List Pr, cst (a ++ b) = cst a + cst b := by
    intro a b
    induction a with
    | nil => simp [cst]
    | cons x a ih => show x.2 + cst (a ++ b) = x.2 + cst a + cst b; rw [ih]; omega
  have h3 := key (xs.take q) (xs.drop q)
  rw [List.take_append_drop] at h3
  omega

end Go.Proofs.Ytdpphneebikdpaa

/- What is posted is found again; stepping over an entry's and a book's variable. -/
namespace Go.Proofs.Ytdpphneebikdpaa
open Go.ChangeShapes Go.WideShapes Go.ChangeAt Go.RowKit Go.PlainAid
set_option linter.unusedVariables false
set_option maxRecDepth 100000

/-- the four facts of a variable of three cells, carried along -/
def C3 (w : World) (g : Nat) (a b c : Value) : Prop := w.cell? ⟨g, 0, none⟩ = some a ∧ w.cell? ⟨g, 1, none⟩ = some b ∧ w.cell? ⟨g, 2, none⟩ = some c ∧ g < w.heap.size
theorem C3.mor {w w' : World} {g : Nat} {a b c : Value} (h : C3 w g a b c) (hm : Mor w w') : C3 w' g a b c :=
  ⟨(hm.below.cell h.2.2.2).trans h.1, (hm.below.cell h.2.2.2).trans h.2.1, (hm.below.cell h.2.2.2).trans h.2.2.1, Nat.lt_of_lt_of_le h.2.2.2 hm.below.size⟩
theorem C3.new (w : World) (a b c : Value) (T : TypeId) : C3 (w.alloc (.cells #[a, b, c] T)) w.heap.size a b c := by
  have hb := Bk.new w T #[a, b, c]
  exact ⟨by rw [hb.cell]; rfl, by rw [hb.cell]; rfl, by rw [hb.cell]; rfl, hb.lt⟩
end Go.Proofs.Ytdpphneebikdpaa
