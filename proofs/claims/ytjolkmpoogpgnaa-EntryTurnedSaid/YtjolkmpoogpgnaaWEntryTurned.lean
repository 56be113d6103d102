/- The walk of talkeep.EntryTurned. -/
import Derived.Test.YtjolkmpoogpgnaaEntE
import Derived.Test.YtjolkmpoogpgnaaEntF
namespace Go.Proofs.Ytjolkmpoogpgnaa.entryTurned
open Go.ChangeShapes Go.WideShapes Go.ChangeAt Go.RowKit Go.PlainAid
set_option linter.unusedVariables false

abbrev sa : ByteArray := { data := #[97] }
abbrev sb : ByteArray := { data := #[98] }
set_option maxRecDepth 100000 in
theorem beg_ok : entc sa 5 [(s10, 7), (s40, -7)] = 0 := by decide +kernel
theorem beg_b : keyB sb = true := by decide +kernel

set_option maxRecDepth 100000 in
set_option maxHeartbeats 6400000 in
theorem entryTurned_walk (w : World) (k0 : ByteArray) (wk0 : k0.size ≤ maxLen) (d0 : Int) (wd0 : (Lit.int .i64 d0).wf = true) (A : Option Addr) (n cap : Nat) (xs : List Ln) (hx : IsLn w A n cap xs) (key : ByteArray) (wkey : key.size ≤ maxLen) (day : Int) (wday : (Lit.int .i64 day).wf = true) :
    Calls Try.prog 3 #[.agg #[.string k0, .int .i64 d0, .slice A n cap], .string key, .int .i64 day] w fun e w' => e = .returned (.bool true) ∧ Below w.heap.size w w' := by
  clear wd0 wday
  obtain ⟨hsi, hlen, hle, hmax, hstr, hwf, hnil⟩ := hx
  have hml : n ≤ maxLen := Nat.le_trans hle hmax
  have HR := Lib.hid hsi
  have HN := Lib.hid hlen
  have HSA := Lib.hid (fun w => sale_any sa 5 7 w (by omega) (by omega))
  have HTB := Lib.hid (fun g w (h : Si w (some ⟨g, 0, none⟩) [(s10, 7), (s40, -7)]) => turned_ok sa 5 (some ⟨g, 0, none⟩) 2 2 [(s10, 7), (s40, -7)] sb 6 w (by decide) h rfl (by omega) (by decide) (fun i hi => by
    match i, hi with
    | 0, _ => decide
    | 1, _ => decide) (by decide) beg_ok beg_b (by omega) (by omega) (by omega))
  have HT0 := Lib.hid (fun w (h : Si w A xs) (hc : turnc k0 d0 xs key day ≠ 0) => turned_no k0 d0 A n cap xs key day w wk0 h hlen hle hml hstr wkey hc)
  have HT1 := Lib.hid (fun w (h : Si w A xs) (hc : entc k0 d0 xs = 0) (h1 : keyB key = true) (h2 : 0 ≤ day) (h3 : day ≤ 292193) (h12 : n ≤ 12) => turned_ok k0 d0 A n cap xs key day w wk0 h hlen hle hml hstr wkey hc h1 h2 h3 h12)
  clear hsi hnil
  go_enter Try.func3, Try.ntmps3
  go_wp2_with fail
  refine (HSA.out _).mono ?_
  rintro e w1 ⟨g, rfl, hs1, hm1⟩
  go_wp2_with fail
  refine (HTB.out g w1 hs1).mono ?_
  rintro e w2 ⟨A1, c1, rfl, hs2, hc1, hA1, hm2⟩
  obtain ⟨g1, rfl⟩ := hA1 (by omega)
  obtain ⟨x, hx1, hx2, hx3, hx4⟩ := hs2.at_ 0 (by simp [turn])
  injection hx1 with hx1
  subst hx1
  simp [turn, am, Addr.add] at hx4
  have cb : (w.alloc (.cells #[.string k0, .int .i64 d0, .slice A n cap] 24)).heap.size = w.heap.size + 1 := by show (w.heap.push _).size = _; rw [Array.size_push]
  have hB0 : Bk w2 w.heap.size 24 #[.string k0, .int .i64 d0, .slice A n cap] := ((Bk.new _ _ _).mor hm1).mor hm2
  have HM2 := Lib.hid (show Mor w w2 from Mor.trans' (Mor.trans' (Mor.refl _).alloc hm1) hm2)
  have HB0 := Lib.hid hB0
  have b0 := hB0.cell 0
  have b1 := hB0.cell 1
  have b2 := hB0.cell 2
  have bl := hB0.lt
  simp at b0 b1 b2
  clear hs1 hs2 hm1 hm2 hB0 cb hx3 HSA HTB
  by_cases hc : turnc k0 d0 xs key day = 0
  · have hc' := hc
    unfold turnc at hc'
    have he : entc k0 d0 xs = 0 := by
      by_cases h : entc k0 d0 xs = 0
      · exact h
      · rw [if_pos h] at hc'; exact absurd hc' h
    rw [if_neg (by simp [he])] at hc'
    have hkb : keyB key = true := by
      cases h : keyB key
      · rw [h, if_pos rfl] at hc'; omega
      · rfl
    rw [hkb, if_neg (by simp)] at hc'
    have hd : 0 ≤ day ∧ day ≤ 292193 := by
      by_cases h : day < 0 ∨ 292193 < day
      · rw [if_pos h] at hc'; omega
      · omega
    obtain ⟨ek, ed0, ed9, el⟩ := entc_ok he
    obtain ⟨el12, el2, els, ela⟩ := linec_ok el
    have h12 : n ≤ 12 := by omega
    have het : entc key day (turn xs) = 0 := by unfold entc; rw [if_neg (by simp [hkb]), if_neg (by omega), linec_turn]; exact el
    have HAB := Lib.hid (fun k (hk : k < n) => show -1000000000000 ≤ am xs k ∧ am xs k ≤ 1000000000000 from by
      have h := lnAt_ok (ela k (by omega))
      exact ⟨h.2.1, h.2.2.1⟩)
    have hstr' : ∀ i, i < n → (cd (turn xs) i).size ≤ maxLen := fun i hi => by rw [cd_turn]; exact hstr i hi
    have HT := Lib.hid (fun w h => HT1.out w h he hkb hd.1 hd.2 h12)
    have HU := Lib.hid (fun A3 c3 w (h : Si w A3 (turn xs)) (hc3 : n ≤ c3) => turned_ok key day A3 n c3 (turn xs) k0 d0 w wkey h (by rw [turn_len]; exact hlen) hc3 hml hstr' wk0 het ek ed0 ed9 h12)
    rw [turn_turn] at HU
    have HCk := Lib.hid (fun A3 c3 w (h : Si w A3 (turn xs)) (hc3 : n ≤ c3) => check_any key day A3 n c3 (turn xs) w wkey h (by rw [turn_len]; exact hlen) hc3 hml hstr')
    rw [het] at HCk
    have HSm := Lib.hid (fun A5 c5 w (h : Si w A5 xs) (h' : Si w A xs) => same_yes k0 d0 A5 A n c5 cap xs w h h' hlen (by omega))
    clear hc hc' he hkb hd ek ed0 ed9 el el12 el2 els ela het hstr hstr' HT0 HT1 hwf
    go_wp2_with fail
    refine (HT.out _ ((HR.out.mor HM2.out).alloc)).mono ?_
    rintro e w3 ⟨A3, c3, rfl, hs3, hc3, hA3, hm3⟩
    have HM3 := Lib.hid (show Mor w w3 from Mor.trans' HM2.out.alloc hm3)
    have HX3 := Lib.hid ((HB0.out.alloc _).mor hm3)
    have HS3 := Lib.hid hs3
    have x0 := HX3.out.cell 0
    have x1 := HX3.out.cell 1
    have x2 := HX3.out.cell 2
    have xl := HX3.out.lt
    simp at x0 x1 x2
    clear hs3 hm3 hA3 b0 b1 b2 bl HB0
    go_wp2_with fail
    refine (HU.out A3 c3 _ HS3.out.alloc hc3).mono ?_
    rintro e w4 ⟨A4, c4, rfl, hs4, hc4, hA4, hm4⟩
    have HM4 := Lib.hid (show Mor w w4 from Mor.trans' HM3.out.alloc hm4)
    have HX4 := Lib.hid ((HX3.out.alloc _).mor hm4)
    have HY4 := Lib.hid ((Bk.new w3 24 #[.string key, .int .i64 day, .slice A3 n c3]).mor hm4)
    have HS4 := Lib.hid ((HS3.out.alloc).mor hm4)
    have HZ4 := Lib.hid hs4
    clear x0 x1 x2 xl hs4 hA4 hm4 HS3 HX3 HM3
    generalize w3.heap.size = g9 at *
    have x0 := HX4.out.cell 0
    have x1 := HX4.out.cell 1
    have x2 := HX4.out.cell 2
    have xl := HX4.out.lt
    have y0 := HY4.out.cell 0
    have y1 := HY4.out.cell 1
    have y2 := HY4.out.cell 2
    have yl := HY4.out.lt
    simp at x0 x1 x2 y0 y1 y2
    go_wp2_with fail
    refine (HCk.out A3 c3 _ HS4.out.alloc hc3).mono ?_
    rintro e w5 ⟨rfl, hm5⟩
    have HM5 := Lib.hid (show Mor w w5 from Mor.trans' HM4.out.alloc hm5)
    have HX5 := Lib.hid ((HX4.out.alloc _).mor hm5)
    have HY5 := Lib.hid ((HY4.out.alloc _).mor hm5)
    have HV5 := Lib.hid ((Bk.new w4 24 #[.string k0, .int .i64 d0, .slice A4 n c4]).mor hm5)
    have HS5 := Lib.hid ((HS4.out.alloc).mor hm5)
    have HZ5 := Lib.hid ((HZ4.out.alloc).mor hm5)
    clear x0 x1 x2 xl y0 y1 y2 yl hm5 HX4 HY4 HS4 HZ4 HM4
    generalize w4.heap.size = g10 at *
    have x0 := HX5.out.cell 0
    have x1 := HX5.out.cell 1
    have x2 := HX5.out.cell 2
    have xl := HX5.out.lt
    have z0 := HV5.out.cell 0
    have z1 := HV5.out.cell 1
    have z2 := HV5.out.cell 2
    have zl := HV5.out.lt
    simp at x0 x1 x2 z0 z1 z2
    go_wp2_with fail
    refine (HSm.out A4 c4 w5 HZ5.out (HR.out.mor HM5.out)).mono ?_
    rintro e w6 ⟨rfl, hm6⟩
    have HM6 := Lib.hid (show Mor w w6 from Mor.trans' HM5.out hm6)
    have HX6 := Lib.hid (HX5.out.mor hm6)
    have HY6 := Lib.hid (HY5.out.mor hm6)
    have HS6 := Lib.hid (HS5.out.mor hm6)
    clear x0 x1 x2 xl z0 z1 z2 zl hm6 HX5 HY5 HS5 HZ5 HV5 HM5
    have x2 := HX6.out.cell 2
    have xl := HX6.out.lt
    have y2 := HY6.out.cell 2
    have yl := HY6.out.lt
    simp at x2 y2
    go_wp2_with fail
    go_loopw [82] (fun i wr => ∃ k m : Nat, k ≤ n ∧ i = .int .i64 k ∧ wr = w6.drewN m) (fun i _ => n - (intOf i).toNat)
    case atStart => exact ⟨0, 0, Nat.zero_le _, rfl, rfl⟩
    case round =>
      obtain ⟨k, m, hk, rfl, rfl⟩ := hrel
      by_cases hlt : k < n
      · obtain ⟨x, hA, hxb, c1, c2⟩ := (HR.out.mor HM6.out).at_ k (by rw [HN.out]; exact hlt)
        obtain ⟨y, hA', hyb, e1, e2⟩ := HS6.out.at_ k (by rw [turn_len, HN.out]; exact hlt)
        rw [cd_turn] at e1
        rw [am_turn] at e2
        subst hA hA'
        obtain ⟨u1, u2⟩ := HAB.out k hlt
        generalize cd xs k = s at *
        generalize am xs k = a at *
        have hi : ((k : Nat) : Int) < (n : Int) := by omega
        have hsum : a + -a = 0 := by omega
        go_wp2_with fail
        go_quiet (fail)
        go_wp2_with fail
        go_roundw
        case rel => exact ⟨k + 1, _, by omega, by go_num, rfl⟩
        case measure => simp [intOf]; omega
      · have e : k = n := by omega
        subst e
        go_wp2_with fail
        go_ret
        exact ⟨rfl, HM6.out.drewN.below⟩
  · have HT := Lib.hid (fun w h => HT0.out w h hc)
    have hb : (turnc k0 d0 xs key day != 0) = true := by simpa using hc
    generalize turnc k0 d0 xs key day = c at *
    clear hc HT0 HT1
    go_wp2_with ((go_at_call 15; (with_reducible refine (HT.out _ ((HR.out.mor HM2.out).alloc)).mono ?_); rintro e w1 ⟨rfl, bs, dr, rfl⟩))
    go_ret
    exact ⟨by first | rfl | (refine ret_b ?_; first | (simp; done) | (simp; omega)), (HM2.out.alloc.more.alloc).below⟩

end Go.Proofs.Ytjolkmpoogpgnaa.entryTurned
