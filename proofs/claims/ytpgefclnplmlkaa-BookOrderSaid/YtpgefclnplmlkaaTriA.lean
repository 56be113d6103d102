/- The walks of trial.look, trial.Trial, trial.kinds, trial.Profit, trial.Sheet. -/
import Derived.Test.YtpgefclnplmlkaaBookR
namespace Go.Proofs.Ytpgefclnplmlkaa
open Go.ChangeShapes Go.WideShapes Go.ChangeAt Go.RowKit Go.PlainAid
set_option linter.unusedVariables false

def lookc (b : Bok) (day : Int) : Int := if bookc b ≠ 0 then bookc b else if day < 0 ∨ 292193 < day then 1 else 0
set_option maxHeartbeats 800000 in
theorem look_any (A : Option Addr) (n c : Nat) (X : Option Addr) (m k : Nat) (b : Bok) (day : Int) (w : World) (h : Bq w A n c X m k b) :
    Calls Try.prog 55 #[bv A n c X m k b.shut, .int .i64 day] w fun e w' => e = .returned (.int .i64 (lookc b day)) ∧ Mor w w' := by
  have HC := Lib.hid (fun w' (hm : Mor w w') => bcheck_any A n c X m k b w' (h.mor hm))
  have HL := Lib.hid (show lookc b day = if bookc b ≠ 0 then bookc b else if day < 0 ∨ 292193 < day then 1 else 0 from rfl)
  have HD := Lib.hid (fun w => cis_any day w)
  generalize lookc b day = l at *
  generalize bookc b = r at *
  generalize b.shut = sh at *
  clear h
  by_cases h1 : r = 0
  · subst h1
    rw [if_neg (by simp)] at HL
    by_cases h3 : day < 0 ∨ 292193 < day
    · rw [if_pos h3] at HL
      rw [show (decide (0 ≤ day) && decide (day ≤ 292193)) = false by simp; omega] at HD
      go_enter Try.func55, Try.ntmps55
      go_wp2_with fail
      refine (HC.out _ (Mor.refl _).alloc).mono ?_
      rintro e w1 ⟨rfl, hm⟩
      have HM := Lib.hid ((Mor.refl w).alloc.trans' hm)
      clear hm
      go_wp2_with (go_at_call 38; (with_reducible refine (HD.out _).mono ?_); rintro e w2 ⟨rfl, rfl⟩)
      go_ret
      exact ⟨by rw [HL.out] <;> rfl, HM.out⟩
    · rw [if_neg h3] at HL
      rw [show (decide (0 ≤ day) && decide (day ≤ 292193)) = true by simp; omega] at HD
      go_enter Try.func55, Try.ntmps55
      go_wp2_with fail
      refine (HC.out _ (Mor.refl _).alloc).mono ?_
      rintro e w1 ⟨rfl, hm⟩
      have HM := Lib.hid ((Mor.refl w).alloc.trans' hm)
      clear hm
      go_wp2_with (go_at_call 38; (with_reducible refine (HD.out _).mono ?_); rintro e w2 ⟨rfl, rfl⟩)
      go_ret
      exact ⟨by rw [HL.out] <;> rfl, HM.out⟩
  · rw [if_pos h1] at HL
    have hr : (r != 0) = true := by simpa using h1
    go_enter Try.func55, Try.ntmps55
    go_wp2_with fail
    refine (HC.out _ (Mor.refl _).alloc).mono ?_
    rintro e w1 ⟨rfl, hm⟩
    have HM := Lib.hid ((Mor.refl w).alloc.trans' hm)
    clear hm
    go_wp2_with fail
    go_ret
    exact ⟨by rw [HL.out] <;> rfl, HM.out⟩
theorem lookc_zero {b : Bok} {d : Int} (h : lookc b d = 0) : BOk b ∧ 0 ≤ d ∧ d ≤ 292193 := by
  unfold lookc at h
  by_cases h1 : bookc b = 0
  · rw [if_neg (by simp [h1])] at h
    by_cases h2 : d < 0 ∨ 292193 < d
    · rw [if_pos h2] at h; omega
    · exact ⟨(bookc_iff b).1 h1, by omega, by omega⟩
  · rw [if_pos h1] at h; exact absurd h h1
theorem lookc_of {b : Bok} {d : Int} (h1 : BOk b) (h2 : 0 ≤ d) (h3 : d ≤ 292193) : lookc b d = 0 := by
  unfold lookc; rw [if_neg (by simp [(bookc_iff b).2 h1]), if_neg (by omega)]

/- Trial -/
def posv (es : List En) (t : Int) (a : Ln) : Int := if 0 < ofS es a.1 0 t then ofS es a.1 0 t else 0
def negv (es : List En) (t : Int) (a : Ln) : Int := if 0 < ofS es a.1 0 t then 0 else -ofS es a.1 0 t
def posS (b : Bok) (t : Int) : Int := sm (posv b.en t) b.ac
def negS (b : Bok) (t : Int) : Int := sm (negv b.en t) b.ac
theorem pos_neg {b : Bok} (h : BOk b) (t : Int) : posS b t = negS b t ∧ 0 ≤ posS b t := by
  have e : sm (fun a : Ln => posv b.en t a) b.ac = sm (fun a : Ln => ofS b.en a.1 0 t + negv b.en t a) b.ac := sm_congr fun a _ => by
    unfold posv negv; split <;> omega
  rw [sm_add, all_zero h 0 t] at e
  have e' : posS b t = 0 + negS b t := e
  refine ⟨by rw [e', Int.zero_add], ?_⟩
  have hp : ∀ l : List Ln, 0 ≤ sm (posv b.en t) l := by
    intro l
    induction l with
    | nil => exact Int.le_refl _
    | cons a l ih => show 0 ≤ posv b.en t a + sm (posv b.en t) l; unfold posv at *; split <;> omega
  exact hp _
set_option maxRecDepth 100000 in
set_option maxHeartbeats 3200000 in
theorem trial_ok (A : Option Addr) (n c : Nat) (X : Option Addr) (m k : Nat) (b : Bok) (t : Int) (w : World) (h : Bq w A n c X m k b) (hl : lookc b t = 0) :
    Calls Try.prog 29 #[bv A n c X m k b.shut, .int .i64 t] w fun e w' => e = .returned (.tuple #[.int .i64 (posS b t), .int .i64 (negS b t), .int .i64 0]) ∧ Mor w w' := by
  obtain ⟨hbo, h0, h9⟩ := lookc_zero hl
  have HL := Lib.hid (fun w' (hm : Mor w w') => look_any A n c X m k b t w' (h.mor hm))
  rw [hl] at HL
  have HO := Lib.hid (fun w' (hm : Mor w w') s => of_any A n c X m k b.shut b.en s 0 t w' (h.es.mor hm) h.length (by rw [← h.length]; exact hbo.len) hbo.enc)
  have HAc := Lib.hid (fun w' (hm : Mor w w') => h.ac.si.mor hm)
  have HN := Lib.hid h.ac.length
  have hn24 : n ≤ 24 := by rw [← h.ac.length]; exact (acc_ok hbo.ac).1
  have HSb := Lib.hid (fun s => ofS_bd hbo.enc hbo.len s 0 t)
  have HTp := Lib.hid (fun j (hj : j < n) => show sm (posv b.en t) (b.ac.take (j + 1)) = sm (posv b.en t) (b.ac.take j) + posv b.en t (cd b.ac j, 0) by
    rw [sm_take _ _ _ (by rw [h.ac.length]; exact hj), (cd_at b.ac j (by rw [h.ac.length]; exact hj)).1]; rfl)
  have HTn := Lib.hid (fun j (hj : j < n) => show sm (negv b.en t) (b.ac.take (j + 1)) = sm (negv b.en t) (b.ac.take j) + negv b.en t (cd b.ac j, 0) by
    rw [sm_take _ _ _ (by rw [h.ac.length]; exact hj), (cd_at b.ac j (by rw [h.ac.length]; exact hj)).1]; rfl)
  have HBp := Lib.hid (fun j (hj : j ≤ n) => show -720000000000000 * (j : Int) ≤ sm (posv b.en t) (b.ac.take j) ∧ sm (posv b.en t) (b.ac.take j) ≤ 720000000000000 * j by
    have := sm_bd (f := posv b.en t) (M := 720000000000000) (xs := b.ac.take j) (fun a _ => by have := ofS_bd hbo.enc hbo.len a.1 0 t; unfold posv; split <;> omega)
    rw [show (b.ac.take j).length = j by rw [List.length_take, h.ac.length]; omega] at this
    omega)
  have HBn := Lib.hid (fun j (hj : j ≤ n) => show -720000000000000 * (j : Int) ≤ sm (negv b.en t) (b.ac.take j) ∧ sm (negv b.en t) (b.ac.take j) ≤ 720000000000000 * j by
    have := sm_bd (f := negv b.en t) (M := 720000000000000) (xs := b.ac.take j) (fun a _ => by have := ofS_bd hbo.enc hbo.len a.1 0 t; unfold negv; split <;> omega)
    rw [show (b.ac.take j).length = j by rw [List.length_take, h.ac.length]; omega] at this
    omega)
  have HAll := Lib.hid (show sm (posv b.en t) (b.ac.take n) = posS b t ∧ sm (negv b.en t) (b.ac.take n) = negS b t by
    rw [List.take_of_length_le (by rw [h.ac.length]; exact Nat.le_refl _)]; exact ⟨rfl, rfl⟩)
  generalize b.shut = sh at *
  clear h hl hbo
  go_enter Try.func29, Try.ntmps29
  go_wp2_with fail
  refine (HL.out _ (Mor.refl _).alloc).mono ?_
  rintro e w1 ⟨rfl, hm⟩
  obtain ⟨c0, c1, c2, cl⟩ := bk_book _ _ _ _ _ _ _ _ hm
  obtain ⟨bP, hbP⟩ : ∃ g, g = w.heap.size := ⟨_, rfl⟩
  rw [← hbP] at c0 c1 c2 cl ⊢
  have HM1 := Lib.hid ((Mor.refl w).alloc.trans' hm)
  have HC := Lib.hid (fun w' (h : Mor w1 w') => show (w'.cell? ⟨bP, 0, none⟩ = some (.slice A n c) ∧ w'.cell? ⟨bP, 1, none⟩ = some (.slice X m k) ∧ w'.cell? ⟨bP, 2, none⟩ = some (.int .i64 sh) ∧ bP < w'.heap.size) by rw [hbP]; exact bk_book _ _ _ _ _ _ _ _ (hm.trans' h))
  clear hm hbP
  go_wp2_with fail
  go_loopw [8, 9, 22] (fun v u i wr => ∃ j : Nat, j ≤ n ∧ i = .int .i64 j ∧ v = .int .i64 (sm (posv b.en t) (b.ac.take j)) ∧ u = .int .i64 (sm (negv b.en t) (b.ac.take j)) ∧ Hid (Mor w1 wr)) (fun _ _ i _ => n - (intOf i).toNat)
  case atStart => exact ⟨0, Nat.zero_le _, rfl, rfl, rfl, Lib.hid (Mor.refl _)⟩
  case round =>
    obtain ⟨j, hj, rfl, rfl, rfl, HM⟩ := hrel
    by_cases hlt : j < n
    · have hji : (j : Int) < (n : Int) := by omega
      have hj0 : (0 : Int) ≤ (j : Int) := by omega
      obtain ⟨x, hA, hxb, d0, d1⟩ := (HAc.out _ (HM1.out.trans' HM.out)).at_ j (by rw [HN.out]; exact hlt)
      subst hA
      obtain ⟨e0, e1, e2, el⟩ := HC.out _ HM.out
      have HOj := Lib.hid (fun w' (h : Mor wr w') => HO.out w' ((HM1.out.trans' HM.out).trans' h) (cd b.ac j))
      have HT1 := Lib.hid (HTp.out j hlt)
      have HT2 := Lib.hid (HTn.out j hlt)
      obtain ⟨s1, s2⟩ := HSb.out (cd b.ac j)
      obtain ⟨q1, q2⟩ := HBp.out j hj
      obtain ⟨q3, q4⟩ := HBn.out j hj
      have HP1 := Lib.hid (show posv b.en t (cd b.ac j, 0) = if 0 < ofS b.en (cd b.ac j) 0 t then ofS b.en (cd b.ac j) 0 t else 0 from rfl)
      have HP2 := Lib.hid (show negv b.en t (cd b.ac j, 0) = if 0 < ofS b.en (cd b.ac j) 0 t then 0 else -ofS b.en (cd b.ac j) 0 t from rfl)
      generalize sm (posv b.en t) (b.ac.take j) = S at *
      generalize sm (negv b.en t) (b.ac.take j) = R at *
      generalize posv b.en t (cd b.ac j, 0) = pv at *
      generalize negv b.en t (cd b.ac j, 0) = nv at *
      generalize ofS b.en (cd b.ac j) 0 t = o at *
      generalize cd b.ac j = s at *
      generalize am b.ac j = a at *
      by_cases ho : 0 < o
      · rw [if_pos ho] at HP1 HP2
        go_wp2_with ((go_at_call 43; (with_reducible refine (HOj.out _ (Mor.refl _).alloc).mono ?_); rintro e w6 ⟨rfl, bs, dr, rfl⟩))
        go_roundw
        case rel => exact ⟨j + 1, by omega, by go_num, by rw [HT1.out, HP1.out], by rw [HT2.out, HP2.out, Int.add_zero], Lib.hid (HM.out.alloc.more)⟩
        case measure => simp [intOf]; omega
      · rw [if_neg ho] at HP1 HP2
        go_wp2_with ((go_at_call 43; (with_reducible refine (HOj.out _ (Mor.refl _).alloc).mono ?_); rintro e w6 ⟨rfl, bs, dr, rfl⟩))
        go_roundw
        case rel => exact ⟨j + 1, by omega, by go_num, by rw [HT1.out, HP1.out, Int.add_zero], by rw [HT2.out, HP2.out]; rfl, Lib.hid (HM.out.alloc.more)⟩
        case measure => simp [intOf]; omega
    · obtain rfl : j = n := by omega
      rw [HAll.out.1, HAll.out.2]
      go_wp2_with fail
      go_returns
      exact ⟨rfl, HM1.out.trans' HM.out⟩
set_option maxHeartbeats 800000 in
theorem trial_no (A : Option Addr) (n c : Nat) (X : Option Addr) (m k : Nat) (b : Bok) (t : Int) (w : World) (h : Bq w A n c X m k b) (hl : lookc b t ≠ 0) :
    Calls Try.prog 29 #[bv A n c X m k b.shut, .int .i64 t] w fun e w' => e = .returned (.tuple #[.int .i64 0, .int .i64 0, .int .i64 (lookc b t)]) ∧ Mor w w' := by
  have HL := Lib.hid (fun w' (hm : Mor w w') => look_any A n c X m k b t w' (h.mor hm))
  generalize lookc b t = r at *
  generalize b.shut = sh at *
  have hr : (r != 0) = true := by simpa using hl
  clear h hl
  go_enter Try.func29, Try.ntmps29
  go_wp2_with fail
  refine (HL.out _ (Mor.refl _).alloc).mono ?_
  rintro e w1 ⟨rfl, hm⟩
  have HM := Lib.hid ((Mor.refl w).alloc.trans' hm)
  clear hm
  go_wp2_with fail
  go_returns
  exact ⟨rfl, HM.out⟩

end Go.Proofs.Ytpgefclnplmlkaa
