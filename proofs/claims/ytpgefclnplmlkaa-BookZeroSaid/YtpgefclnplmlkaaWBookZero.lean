/- The walk of talkeep.BookZero. -/
import Derived.Test.YtpgefclnplmlkaaBookQ
namespace Go.Proofs.Ytpgefclnplmlkaa.bookZero
open Go.ChangeShapes Go.WideShapes Go.ChangeAt Go.RowKit Go.PlainAid
set_option linter.unusedVariables false

set_option maxRecDepth 100000 in
set_option maxHeartbeats 3200000 in
theorem bookZero_walk (w : World) (A : Option Addr) (n c : Nat) (X : Option Addr) (m k : Nat) (b : Bok) (hb : Bq w A n c X m k b) (v1 : Int) (w1 : (Lit.int .i64 v1).wf = true) :
    Calls Try.prog 4 #[bv A n c X m k b.shut, .int .i64 v1] w fun e w' => e = .returned (.bool true) ∧ Below w.heap.size w w' := by
  have hn63 : n ≤ maxLen := Nat.le_trans hb.ac.le hb.ac.max
  unfold maxLen at hn63
  have HB := Lib.hid hb
  have t0 := wi_lo v1 292194 (by omega)
  have t1 := wi_hi v1 292194 (by omega)
  have HDy := Lib.hid (fun w => day_any v1 w)
  generalize wi v1 292194 = t at *
  have HBa := Lib.hid (fun w' (h : Mor w w') s => bal_any A n c X m k b s t w' (hb.mor h))
  have HCk := Lib.hid (fun w' (h : Mor w w') => bcheck_any A n c X m k b w' (hb.mor h))
  have HAc := Lib.hid (fun w' (h : Mor w w') => hb.ac.si.mor h)
  have HN := Lib.hid hb.ac.length
  generalize b.shut = sh at *
  clear hb w1
  go_enter Try.func4, Try.ntmps4
  go_wp2_with fail
  refine (begun_any _).mono ?_
  rintro e w2 ⟨rfl, hm⟩
  obtain ⟨c0, c1, c2, cl⟩ := bk_book _ _ _ _ _ _ _ _ hm
  obtain ⟨bP, hbP⟩ : ∃ g, g = w.heap.size := ⟨_, rfl⟩
  rw [← hbP] at c0 c1 c2 cl ⊢
  have HM2 := Lib.hid ((Mor.refl w).alloc.trans' hm)
  have HC := Lib.hid (fun w' (h : Mor w2 w') => show (w'.cell? ⟨bP, 0, none⟩ = some (.slice A n c) ∧ w'.cell? ⟨bP, 1, none⟩ = some (.slice X m k) ∧ w'.cell? ⟨bP, 2, none⟩ = some (.int .i64 sh) ∧ bP < w'.heap.size) by rw [hbP]; exact bk_book _ _ _ _ _ _ _ _ (hm.trans' h))
  clear hm hbP
  go_wp2_with ((go_at_call 17; (with_reducible refine (HDy.out _).mono ?_); rintro e w6 ⟨rfl, rfl⟩))
  by_cases hc : bookc b = 0
  · have hbo := (bookc_iff b).1 hc
    have HBl := Lib.hid (fun j (hj : j < n) => show balc b (cd b.ac j) t = 0 ∧ balv b (cd b.ac j) t = ofS b.en (cd b.ac j) 0 t from by
      have e : balc b (cd b.ac j) t = 0 := by
        unfold balc
        rw [if_neg (by simp [hc]), if_neg, if_neg (by omega)]
        have hj' : j < b.ac.length := by rw [HN.out]; exact hj
        have : hasB b.ac (cd b.ac j) = true := by
          rw [hasB_mem, (cd_at b.ac j hj').1]
          exact List.mem_map_of_mem (List.getElem_mem hj')
        rw [this]; simp
      exact ⟨e, by unfold balv; rw [e]; rfl⟩)
    have HSb := Lib.hid (fun j => ofS_bd hbo.enc hbo.len (cd b.ac j) 0 t)
    have hn24 : n ≤ 24 := by rw [← HN.out]; exact (acc_ok hbo.ac).1
    have HTk := Lib.hid (fun j (hj : j < n) => show sm (fun a : Ln => ofS b.en a.1 0 t) (b.ac.take (j + 1)) = sm (fun a : Ln => ofS b.en a.1 0 t) (b.ac.take j) + ofS b.en (cd b.ac j) 0 t by
      rw [sm_take _ _ _ (by rw [HN.out]; exact hj), (cd_at b.ac j (by rw [HN.out]; exact hj)).1])
    have HBd := Lib.hid (fun j (hj : j ≤ n) => show -720000000000000 * (j : Int) ≤ sm (fun a : Ln => ofS b.en a.1 0 t) (b.ac.take j) ∧ sm (fun a : Ln => ofS b.en a.1 0 t) (b.ac.take j) ≤ 720000000000000 * j by
      have := sm_bd (f := fun a : Ln => ofS b.en a.1 0 t) (M := 720000000000000) (xs := b.ac.take j) (fun a _ => ofS_bd hbo.enc hbo.len a.1 0 t)
      rw [show (b.ac.take j).length = j by rw [List.length_take, HN.out]; omega] at this
      omega)
    have HZ := Lib.hid (show sm (fun a : Ln => ofS b.en a.1 0 t) (b.ac.take n) = 0 by
      rw [List.take_of_length_le (by rw [HN.out]; exact Nat.le_refl _)]; exact all_zero hbo 0 t)
    clear hbo hc
    go_loopw [5, 17] (fun v i wr => ∃ j : Nat, j ≤ n ∧ i = .int .i64 j ∧ v = .int .i64 (sm (fun a : Ln => ofS b.en a.1 0 t) (b.ac.take j)) ∧ Hid (Mor w2 wr)) (fun _ i _ => n - (intOf i).toNat)
    case atStart => exact ⟨0, Nat.zero_le _, rfl, rfl, Lib.hid (Mor.refl _)⟩
    case round =>
      obtain ⟨j, hj, rfl, rfl, HM⟩ := hrel
      by_cases hlt : j < n
      · have hji : (j : Int) < (n : Int) := by omega
        have hj0 : (0 : Int) ≤ (j : Int) := by omega
        obtain ⟨x, hA, hxb, d0, d1⟩ := (HAc.out _ (HM2.out.trans' HM.out)).at_ j (by rw [HN.out]; exact hlt)
        subst hA
        obtain ⟨e0, e1, e2, el⟩ := HC.out _ HM.out
        obtain ⟨b1, b2⟩ := HBl.out j hlt
        have HBj := Lib.hid (fun w' (h : Mor wr w') => HBa.out w' ((HM2.out.trans' HM.out).trans' h) (cd b.ac j))
        rw [b1, b2] at HBj
        have HT := Lib.hid (HTk.out j hlt)
        obtain ⟨s1, s2⟩ := HSb.out j
        obtain ⟨q1, q2⟩ := HBd.out j hj
        generalize sm (fun a : Ln => ofS b.en a.1 0 t) (b.ac.take j) = S at *
        generalize ofS b.en (cd b.ac j) 0 t = o at *
        generalize cd b.ac j = s at *
        generalize am b.ac j = a at *
        clear b1 b2
        go_wp2_with ((go_at_call 20; (with_reducible refine (HBj.out _ (Mor.refl _).alloc).mono ?_); rintro e w6 ⟨rfl, bs, dr, rfl⟩))
        go_roundw
        case rel => exact ⟨j + 1, by omega, by go_num, by rw [HT.out], Lib.hid (HM.out.alloc.more)⟩
        case measure => simp [intOf]; omega
      · obtain rfl : j = n := by omega
        rw [HZ.out]
        go_wp2_with fail
        go_ret
        exact ⟨rfl, (HM2.out.trans' HM.out).below⟩
  · by_cases hn0 : n = 0
    · subst hn0
      go_loopw [5, 17] (fun v i wr => i = .int .i64 (0 : Nat) ∧ v = .int .i64 0 ∧ Hid (Mor w2 wr)) (fun _ i _ => 0)
      case atStart => exact ⟨rfl, rfl, Lib.hid (Mor.refl _)⟩
      case round =>
        obtain ⟨rfl, rfl, HM⟩ := hrel
        go_wp2_with fail
        go_ret
        exact ⟨rfl, (HM2.out.trans' HM.out).below⟩
    · have hn0' : 0 < n := by omega
      obtain ⟨x, hA, hxb, d0, d1⟩ := (HAc.out _ HM2.out).at_ 0 (by rw [HN.out]; exact hn0')
      subst hA
      have HBj := Lib.hid (fun w' (h : Mor w2 w') => HBa.out w' (HM2.out.trans' h) (cd b.ac 0))
      have e1 : balc b (cd b.ac 0) t = bookc b := by unfold balc; rw [if_pos hc]
      have e2 : balv b (cd b.ac 0) t = 0 := by unfold balv; rw [e1, if_pos hc]
      rw [e1, e2] at HBj
      generalize bookc b = r at *
      generalize cd b.ac 0 = s at *
      generalize am b.ac 0 = a at *
      have hrb : (r != 0) = true := by simpa using hc
      have hnz : (0 : Int) < (n : Int) := by omega
      clear hc e1 e2
      simp [Addr.add] at d0 d1
      refine wp_loop_rounds 1 ?_
      rw [rounds_succ]
      go_wp2_with ((go_at_call 20; (with_reducible refine (HBj.out _ (Mor.refl _).alloc).mono ?_); rintro e w6 ⟨rfl, bs, dr, rfl⟩))
      refine (HCk.out _ (HM2.out.trans' ((Mor.refl _).alloc.more))).mono ?_
      rintro e w7 ⟨rfl, hm⟩
      have HM7 := Lib.hid ((HM2.out.trans' ((Mor.refl _).alloc.more)).trans' hm)
      clear hm
      go_wp2_with fail
      go_ret
      exact ⟨by simp, HM7.out.below⟩

end Go.Proofs.Ytpgefclnplmlkaa.bookZero
