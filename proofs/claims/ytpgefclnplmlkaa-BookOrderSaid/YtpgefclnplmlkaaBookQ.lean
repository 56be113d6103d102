/- The walk of talkeep.bookBegun. -/
import Derived.Test.YtpgefclnplmlkaaBookO
import Derived.Test.YtpgefclnplmlkaaLnA
import Derived.BigRegion
namespace Go.Proofs.Ytpgefclnplmlkaa
open Go.ChangeShapes Go.WideShapes Go.ChangeAt Go.RowKit Go.PlainAid
set_option linter.unusedVariables false

/-- what Post answers, be it refused or not -/
theorem postYes_bq {w w' : World} {b : Bok} {e : Ending} (h : PostYes w b e w') : ∃ A n c X m k, e = .returned (.tuple #[bv A n c X m k b.shut, .int .i64 0]) ∧ Bq w' A n c X m k b ∧ OwnB w' w.heap.size (.slice A n c) (.slice X m k) n m b ∧ Mor w w' := by
  obtain ⟨A, n, c, X, m, k, he, ho, hm⟩ := h
  obtain ⟨A', c', X', k', e1, e2, hb⟩ := ho.bq
  injection e1 with e1 _ e3
  injection e2 with e4 _ e6
  subst e1 e3 e4 e6
  exact ⟨A, n, c, X, m, k, he, hb, ho, hm⟩
theorem lq_two {w : World} {g : Nat} {a b : ByteArray} {m n : Int} (h : Si w (some ⟨g, 0, none⟩) [(a, m), (b, n)]) (ha : a.size ≤ maxLen) (hb : b.size ≤ maxLen) : Lq w (some ⟨g, 0, none⟩) 2 2 [(a, m), (b, n)] :=
  ⟨h, rfl, Nat.le_refl _, by unfold maxLen; omega, (fun h => by cases h), fun i hi => by
    match i, hi with
    | 0, _ => exact ha
    | 1, _ => exact hb⟩
theorem two_max : (2 : Nat) ≤ maxLen := by unfold maxLen; omega
theorem one_max : (1 : Nat) ≤ maxLen := by unfold maxLen; omega

/-- a book's variable -/
theorem bk_book (w : World) (A : Option Addr) (n c : Nat) (X : Option Addr) (m k : Nat) (s : Int) {w' : World} (h : Mor (w.alloc (.cells #[.slice A n c, .slice X m k, .int .i64 s] 25)) w') :
    w'.cell? ⟨w.heap.size, 0, none⟩ = some (.slice A n c) ∧ w'.cell? ⟨w.heap.size, 1, none⟩ = some (.slice X m k) ∧ w'.cell? ⟨w.heap.size, 2, none⟩ = some (.int .i64 s) ∧ w.heap.size < w'.heap.size := by
  have hb := (Bk.new w 25 #[.slice A n c, .slice X m k, .int .i64 s]).mor h
  exact ⟨by rw [hb.cell]; rfl, by rw [hb.cell]; rfl, by rw [hb.cell]; rfl, hb.lt⟩

set_option maxHeartbeats 3200000 in
theorem begun_any (w : World) : Calls Try.prog 19 #[] w fun e w' => e = .returned (.bool true) ∧ Mor w w' := by
  obtain ⟨pb1, pb2, pb3, pb4⟩ := plain_bal
  have HPb := Lib.hid (And.intro pb1 (And.intro pb2 (And.intro pb3 pb4)))
  clear pb1 pb2 pb3 pb4
  go_enter Try.func19, Try.ntmps19
  go_wp2_with fail
  refine (plain_any _).mono ?_
  rintro e w1 ⟨g, rfl, hq, hm⟩
  have HQ := Lib.hid hq
  have HM1 := Lib.hid hm
  clear hq hm
  go_wp2_with fail
  refine (sale_any ka 5 7 _ (by omega) (by omega)).mono ?_
  rintro e w2 ⟨g2, rfl, hs, hm⟩
  have HQ2 := Lib.hid (HQ.out.mor hm)
  have HS := Lib.hid (lq_two hs two_max two_max)
  have HM2 := Lib.hid (HM1.out.trans' hm)
  clear hs hm HQ HM1
  go_wp2_with fail
  refine (post_yes _ _ _ _ _ _ plainB (saleE ka 5 7) _ _ _ _ HQ2.out HS.out one_max (plain_post 7 rfl)).mono ?_
  intro e w3 h3
  obtain ⟨A, n, c, X, m, k, rfl, hq, ho, hm⟩ := postYes_bq h3
  have hm1 : m = 1 := by rw [← hq.length]; exact HPb.out.2.2.1
  subst hm1
  have HQ3 := Lib.hid hq
  have HM3 := Lib.hid (HM2.out.trans' hm)
  clear hq hm ho h3 HQ2 HS HM2
  have HBa := Lib.hid (fun w' (h : Mor w3 w') => bal_any A n c X 1 k _ s40 5 w' (HQ3.out.mor h))
  have HCk := Lib.hid (fun w' (h : Mor w3 w') => bcheck_any A n c X 1 k _ w' (HQ3.out.mor h))
  rw [HPb.out.1, HPb.out.2.1] at HBa
  rw [HPb.out.2.2.2] at HCk
  go_wp2_with fail
  refine (HBa.out _ (Mor.refl _).alloc).mono ?_
  rintro e w4 ⟨rfl, hm⟩
  obtain ⟨c0, c1, c2, cl⟩ := bk_book _ _ _ _ _ _ _ _ hm
  have HM4 := Lib.hid ((Mor.refl w3).alloc.trans' hm)
  clear hm HBa
  go_wp2_with fail
  refine (HCk.out _ HM4.out).mono ?_
  rintro e w5 ⟨rfl, hm⟩
  have HM5 := Lib.hid ((HM3.out.trans' HM4.out).trans' hm)
  clear hm
  go_wp2_with fail
  go_ret
  exact ⟨rfl, HM5.out⟩

end Go.Proofs.Ytpgefclnplmlkaa
