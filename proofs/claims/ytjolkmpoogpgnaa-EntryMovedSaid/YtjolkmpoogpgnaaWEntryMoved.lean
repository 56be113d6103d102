/- The walk of talkeep.EntryMoved. -/
import Derived.Test.YtjolkmpoogpgnaaEntG
import Derived.Test.YtjolkmpoogpgnaaEntF
import Derived.Test.YtjolkmpoogpgnaaPlainD
import Derived.Test.YtjolkmpoogpgnaaWithinA
import Derived.Deep.RegionWith
import Derived.Deep.DeepCutAuto
namespace Go.Proofs.Ytjolkmpoogpgnaa.entryMoved
open Go.ChangeShapes Go.WideShapes Go.ChangeAt Go.RowKit Go.PlainAid
set_option linter.unusedVariables false

abbrev sa : ByteArray := { data := #[97] }
abbrev s1 : ByteArray := { data := #[49] }
abbrev s2 : ByteArray := { data := #[50] }
set_option maxRecDepth 100000 in
theorem beg_ok : entc sa 5 [(s10, 7), (s40, -7)] = 0 := by decide +kernel
set_option maxRecDepth 100000 in
theorem beg_no : entc sa 0 [(s1, 1), (s2, 1)] = 7 := by decide +kernel

theorem half_bd (a : Int) (h1 : -1000000000000 ≤ a) (h2 : a ≤ 1000000000000) (h3 : a ≠ 0) : -1000000000000 ≤ (-a).tdiv 2 ∧ (-a).tdiv 2 ≤ 1000000000000 ∧ (-a).tdiv 2 ≠ a := by
  rcases Int.lt_or_le a 0 with h | h
  · rw [Int.tdiv_eq_ediv_of_nonneg (by omega)]; omega
  · rw [Int.neg_tdiv, Int.tdiv_eq_ediv_of_nonneg h]; omega

set_option maxRecDepth 100000 in
set_option maxHeartbeats 6400000 in
theorem entryMoved_walk (w : World) (k0 : ByteArray) (wk0 : k0.size ≤ maxLen) (d0 : Int) (wd0 : (Lit.int .i64 d0).wf = true) (A : Option Addr) (n cap : Nat) (xs : List Ln) (hx : IsLn w A n cap xs) (t : Int) (wt : (Lit.int .i64 t).wf = true) (i : Int) (wi' : (Lit.int .i64 i).wf = true) :
    Calls Try.prog 4 #[.agg #[.string k0, .int .i64 d0, .slice A n cap], .int .i64 t, .int .i64 i] w fun e w' => e = .returned (.bool true) ∧ Below w.heap.size w w' := by
  clear wd0 wt wi'
  obtain ⟨hsi, hlen, hle, hmax, hstr, hwf, hnil⟩ := hx
  have hml : n ≤ maxLen := Nat.le_trans hle hmax
  have HR := Lib.hid hsi
  have HN := Lib.hid hlen
  have HSA := Lib.hid (fun w => sale_any sa 5 7 w (by omega) (by omega))
  have HC1 := Lib.hid (fun g w (h : Si w (some ⟨g, 0, none⟩) [(s10, 7), (s40, -7)]) => check_any sa 5 (some ⟨g, 0, none⟩) 2 2 [(s10, 7), (s40, -7)] w (by decide) h rfl (by omega) (by decide) (fun i hi => by
    match i, hi with
    | 0, _ => decide
    | 1, _ => decide))
  rw [beg_ok] at HC1
  have HC2 := Lib.hid (fun g w (h : Si w (some ⟨g, 0, none⟩) [(s1, 1), (s2, 1)]) => check_any sa 0 (some ⟨g, 0, none⟩) 2 2 [(s1, 1), (s2, 1)] w (by decide) h rfl (by omega) (by decide) (fun i hi => by
    match i, hi with
    | 0, _ => decide
    | 1, _ => decide))
  rw [beg_no] at HC2
  have HC := Lib.hid (fun w (h : Si w A xs) => check_any k0 d0 A n cap xs w wk0 h hlen hle hml hstr)
  have HM0 := Lib.hid (Mor.refl w)
  clear hsi
  go_enter Try.func4, Try.ntmps4
  go_wp2_with fail
  refine (HSA.out _).mono ?_
  rintro e w1 ⟨g, rfl, hs1, hm1⟩
  go_wp2_with fail
  refine (HC1.out g w1 hs1).mono ?_
  rintro e w2 ⟨rfl, hm2⟩
  have hB0 : Bk w2 w.heap.size 24 #[.string k0, .int .i64 d0, .slice A n cap] := ((Bk.new _ _ _).mor hm1).mor hm2
  have HM2 := Lib.hid (show Mor w w2 from Mor.trans' (Mor.trans' (Mor.refl _).alloc hm1) hm2)
  have HB0 := Lib.hid hB0
  clear hs1 hm1 hm2 hB0 HSA HC1
  go_wp2_with fail
  refine (HC2.out w2.heap.size _ (Si.of_rd (Rd.new (flat pc [(s1, 1), (s2, 1)]) rfl (by simp [flat, pc])))).mono ?_
  rintro e w3 ⟨rfl, hm3⟩
  have HM3 := Lib.hid (show Mor w w3 from Mor.trans' HM2.out.alloc hm3)
  have HB3 := Lib.hid ((HB0.out.alloc _).mor hm3)
  have b0 := HB3.out.cell 0
  have b1 := HB3.out.cell 1
  have b2 := HB3.out.cell 2
  have bl := HB3.out.lt
  simp at b0 b1 b2
  clear hm3 HM2 HB0 HC2
  go_wp2_with fail
  refine (HC.out w3 (HR.out.mor HM3.out)).mono ?_
  rintro e w4 ⟨rfl, hm4⟩
  have HM4 := Lib.hid (show Mor w w4 from Mor.trans' HM3.out hm4)
  have HB4 := Lib.hid (HB3.out.mor hm4)
  clear b0 b1 b2 bl
  have b0 := HB4.out.cell 0
  have b1 := HB4.out.cell 1
  have b2 := HB4.out.cell 2
  have bl := HB4.out.lt
  simp at b0 b1 b2
  clear hm4 HM3 HB3
  by_cases hc : entc k0 d0 xs = 0
  · rw [hc]
    obtain ⟨ek, ed0, ed9, el⟩ := entc_ok hc
    obtain ⟨el12, el2, els, ela⟩ := linec_ok el
    have n2 : 2 ≤ n := by omega
    have n12 : n ≤ 12 := by omega
    cases A with
    | none => have := hnil rfl; omega
    | some x0 =>
    have T0 := wi_lo t n (by omega)
    have T9 := wi_hi t n (by omega)
    have HW1 := Lib.hid (fun w => within_any t n w (by omega) (by omega))
    generalize wi t n = T at *
    obtain ⟨T, rfl⟩ := Int.eq_ofNat_of_zero_le T0
    have I0 := wi_lo i n (by omega)
    have I9 := wi_hi i n (by omega)
    have HW2 := Lib.hid (fun w => within_any i n w (by omega) (by omega))
    generalize wi i n = I at *
    obtain ⟨I, rfl⟩ := Int.eq_ofNat_of_zero_le I0
    have hT : T < n := by omega
    have hI : I < n := by omega
    have q1 : T ≤ cap := by omega
    have q2 : (T : Int) ≤ (cap : Int) := by omega
    have q3 : (T : Int) ≤ (n : Int) := by omega
    have q4 : ¬ cap = T := by omega
    have HCC := Lib.hid (fun W g (hb : Bk W g 22 #[.slice (some (x0.add (T * 2))) (n - T) (cap - T), .slice (some x0) T cap]) (h : Si W (some x0) xs) => show Calls Try.prog 20 #[.slice (some ⟨g, 0, none⟩) 2 2] W (MadePost W n (xs.drop T ++ xs.take T)) from by
      have := concat2 g (x0.add (T * 2)) x0 (n - T) (cap - T) T cap (xs.drop T) (xs.take T) W hb (si_drop h T (by omega)) (si_take h T) (by rw [List.length_drop]; omega) (by rw [List.length_take]; omega) (by omega) (by omega)
      rw [show n - T + T = n by omega] at this
      exact this)
    have hw5 : (w4.alloc (.cells #[.string k0, .int .i64 d0, .slice (some x0) n cap] 24)).heap.size = w4.heap.size + 1 := by show (w4.heap.push _).size = _; rw [Array.size_push]
    have HH := Lib.hid (show Bk ((w4.alloc (.cells #[.string k0, .int .i64 d0, .slice (some x0) n cap] 24)).alloc (.cells #[.slice (some (x0.add (T * 2))) (n - T) (cap - T), .slice (some x0) T cap] 22)) (w4.heap.size + 1) 22 #[.slice (some (x0.add (T * 2))) (n - T) (cap - T), .slice (some x0) T cap] by rw [← hw5]; exact Bk.new _ _ _)
    have HY := Lib.hid (show Bk ((w4.alloc (.cells #[.string k0, .int .i64 d0, .slice (some x0) n cap] 24)).alloc (.cells #[.slice (some (x0.add (T * 2))) (n - T) (cap - T), .slice (some x0) T cap] 22)) w4.heap.size 24 #[.string k0, .int .i64 d0, .slice (some x0) n cap] from (Bk.new _ _ _).alloc _)
    have HSx := Lib.hid (show Si ((w4.alloc (.cells #[.string k0, .int .i64 d0, .slice (some x0) n cap] 24)).alloc (.cells #[.slice (some (x0.add (T * 2))) (n - T) (cap - T), .slice (some x0) T cap] 22)) (some x0) xs from (HR.out.mor HM4.out).alloc.alloc)
    have HX4 := Lib.hid ((HB4.out.alloc (.cells #[.string k0, .int .i64 d0, .slice (some x0) n cap] 24)).alloc (.cells #[.slice (some (x0.add (T * 2))) (n - T) (cap - T), .slice (some x0) T cap] 22))
    have HM5 := Lib.hid (show Mor w ((w4.alloc (.cells #[.string k0, .int .i64 d0, .slice (some x0) n cap] 24)).alloc (.cells #[.slice (some (x0.add (T * 2))) (n - T) (cap - T), .slice (some x0) T cap] 22)) from HM4.out.alloc.alloc)
    have hwl : w.heap.size ≤ w4.heap.size := HM4.out.below.size
    have hwne : w.heap.size ≠ w4.heap.size := by omega
    have HNE := Lib.hid hwne
    clear hw5 hwne
    go_wp2_with ((go_at_call 19; (with_reducible refine (HW1.out _).mono ?_); rintro e w1 ⟨rfl, rfl⟩))
    go_cut [7] (fun s wx => s = .pointer (some ⟨w4.heap.size, 0, none⟩) ∧ ∃ A2 c2, Bk wx w4.heap.size 24 #[.string k0, .int .i64 d0, .slice A2 n c2] ∧ Si wx A2 (xs.drop T ++ xs.take T) ∧ n ≤ c2 ∧ Bk wx w.heap.size 24 #[.string k0, .int .i64 d0, .slice (some x0) n cap] ∧ Below w.heap.size w wx ∧ w4.heap.size + 1 ≤ wx.heap.size)
    case first =>
      go_region_with ((go_at_call 20; (with_reducible refine (HCC.out _ _ (Bk.drew HH.out) (Si.mor HSx.out (Mor.drew (Mor.refl _)))).mono ?_); rintro e wR ⟨v, rfl, hown, hm⟩; obtain ⟨A2, c2, rfl, hc2, hrd2, _⟩ := own_shape hown; have b7 := Bk.mor (Bk.drew HY.out) hm; have cz := b7.cell 2; have fz := b7.frozen 2; have ll := b7.lt; simp at cz))
      all_goals (go_wp2_with fail; go_meet; exact ⟨rfl, A2, c2, (by have := b7.set_ 2 (.slice A2 n c2); simpa using this), Si.of_rd (Rd.own (own_set hown (by show w4.heap.size < ((w4.heap.push _).push _).size; rw [Array.size_push, Array.size_push]; omega))), hc2, (Bk.mor (Bk.drew HX4.out) hm).set_other _ _ _ HNE.out, (Mor.trans' HM5.out.drew hm).below.setCell (p := ⟨w4.heap.size, 2, none⟩) hwl _, by have h1 : w4.heap.size + 1 ≤ wR.heap.size := ll; simpa [World.setCell] using h1⟩)
    case rest =>
      obtain ⟨rfl, A2, c2, hy5, hs5, hc5, hx5, hb5, hl5⟩ := hcut
      obtain ⟨w5, rfl⟩ : ∃ w5 : World, w5 = wc := ⟨_, rfl⟩
      have HY5 := Lib.hid hy5
      have HS5 := Lib.hid hs5
      have HX5 := Lib.hid hx5
      have HM5' := Lib.hid (Mor.of_below hb5)
      have x0c := hx5.cell 0
      have x1c := hx5.cell 1
      have x2c := hx5.cell 2
      have xl := hx5.lt
      simp at x0c x1c x2c
      have HCl := Lib.hid (fun W (h : Si W (some x0) xs) => clone_ln x0 n cap xs W h hlen (by omega))
      have hz8 := (Bk.new w5 24 #[.string k0, .int .i64 d0, .slice (some x0) n cap])
      have HZ5 := Lib.hid hz8
      clear hy5 hs5 hx5 hb5 hz8 HH HY HSx HX4 HM5 HCC b0 b1 b2 bl HB4
      generalize w4.heap.size = g7 at *
      go_wp2_with fail
      refine (HCl.out _ ((HR.out.mor HM5'.out).alloc)).mono ?_
      rintro e w6 ⟨v6, rfl, hown6, hm6⟩
      obtain ⟨g6, c6, cur, rfl, hg6, hc6, hb6, hcur⟩ := own_cur hown6 (by omega) hlen
      have hsz : (w5.alloc (.cells #[.string k0, .int .i64 d0, .slice (some x0) n cap] 24)).heap.size = w5.heap.size + 1 := by show (w5.heap.push _).size = _; rw [Array.size_push]
      rw [hsz] at hg6
      have h86 : w5.heap.size ≠ g6 := by omega
      have HB8 := Lib.hid (HZ5.out.mor hm6)
      have HB6 := Lib.hid hb6
      have HCur := Lib.hid hcur
      have HM6 := Lib.hid (show Mor w5 w6 from Mor.trans' (Mor.refl _).alloc hm6)
      have hXl := HX5.out.lt
      have HX6 := Lib.hid (HX5.out.mor HM6.out)
      have HC6a := Lib.hid ((hcur I hI).2)
      have H86 := Lib.hid h86
      clear hown6 hm6 hb6 hcur HZ5 hsz x0c x1c x2c h86
      have y0c := HX6.out.cell 2
      have yl := HX6.out.lt
      have z2c := HB8.out.cell 2
      have z2f := HB8.out.frozen 2
      have zl := HB8.out.lt
      simp at y0c z2c
      obtain ⟨ab1, ab2, ab3⟩ : -1000000000000 ≤ am xs I ∧ am xs I ≤ 1000000000000 ∧ am xs I ≠ 0 := by
        have h := lnAt_ok (ela I (by omega))
        exact ⟨h.2.1, h.2.2.1, h.2.2.2.1⟩
      obtain ⟨hb1, hb2, hb3⟩ := half_bd (am xs I) ab1 ab2 ab3
      obtain ⟨b, hbd⟩ : ∃ b, (-(am xs I)).tdiv 2 = b := ⟨_, rfl⟩
      rw [hbd] at hb1 hb2 hb3
      obtain ⟨zs, hzs⟩ : ∃ zs, zs = xs.set I (cd xs I, b) := ⟨_, rfl⟩
      obtain ⟨ys, hys⟩ : ∃ ys, ys = xs.drop T ++ xs.take T := ⟨_, rfl⟩
      have hstrM : ∀ x ∈ xs, x.1.size ≤ maxLen := fun x hx => by
        obtain ⟨k, hk, rfl⟩ := List.getElem_of_mem hx
        have := hstr k (by omega)
        rw [(cd_at xs k hk).1] at this; exact this
      have hyl : ys.length = n := by rw [hys, List.length_append, List.length_drop, List.length_take]; omega
      have hzl : zs.length = n := by rw [hzs, List.length_set]; exact hlen
      have hystr : ∀ k, k < n → (cd ys k).size ≤ maxLen := fun k hk => by
        have hk' : k < ys.length := by omega
        rw [(cd_at ys k hk').1]
        have hm := List.getElem_mem hk'
        have hm2 : ys[k] ∈ xs.drop T ++ xs.take T := by rw [← hys]; exact hm
        rcases List.mem_append.1 hm2 with h | h
        · exact hstrM _ (List.mem_of_mem_drop h)
        · exact hstrM _ (List.mem_of_mem_take h)
      have hzstr : ∀ k, k < n → (cd zs k).size ≤ maxLen := fun k hk => by
        have hk' : k < zs.length := by omega
        rw [(cd_at zs k hk').1]
        have hm := List.getElem_mem hk'
        have hm2 : zs[k] ∈ xs.set I (cd xs I, b) := by rw [← hzs]; exact hm
        rcases List.mem_or_eq_of_mem_set hm2 with h | h
        · exact hstrM _ h
        · rw [h]; exact hstr I hI
      have hye : entc k0 d0 ys = 0 := by unfold entc; rw [if_neg (by simp [ek]), if_neg (by omega), hys]; exact linec_rot T el
      have HZ7 := Lib.hid (fun h : b ≠ 0 => show entc k0 d0 zs = 7 by unfold entc; rw [if_neg (by simp [ek]), if_neg (by omega), hzs]; exact linec_set I b el (by omega) hb1 hb2 h hb3)
      have HCy := Lib.hid (fun W (h : Si W A2 ys) => check_any k0 d0 A2 n c2 ys W wk0 h hyl hc5 hml hystr)
      rw [hye] at HCy
      have HCz := Lib.hid (fun W (h : Si W (some ⟨g6, 0, none⟩) zs) => check_any k0 d0 (some ⟨g6, 0, none⟩) n c6 zs W wk0 h hzl hc6 hml hzstr)
      have HSz := Lib.hid (fun wx (h : Bk wx g6 30 (cur.setIfInBounds (I * 2 + 1) (.int .i64 b))) => show Si wx (some ⟨g6, 0, none⟩) zs by rw [hzs]; exact si_blk h (set_cur I b hI hlen HCur.out))
      have HZb := Lib.hid (show (cur.setIfInBounds (I * 2 + 1) (.int .i64 b))[I * 2 + 1]? = some (.int .i64 b) by
        have h := (set_cur I b hI hlen HCur.out I (by rw [List.length_set]; omega)).2
        rw [h]
        congr 2
        unfold am
        rw [List.getD_eq_getElem?_getD, List.getElem?_set, if_pos rfl, if_pos (by omega)]; rfl)
      have HYs := Lib.hid (show Si w5 A2 ys by rw [hys]; exact HS5.out)
      clear hzs hys hstrM hyl hzl hystr hzstr hye hb3 ek ed0 ed9 el el12 el2 els ela hstr hwf hlen HR HCl hnil HS5 HC
      generalize am xs I = a at *
      have hb0 : w5.heap.size ≠ g6 := H86.out
      have HB8' := Lib.hid (HB8.out.set_ 2 (.slice (some ⟨g6, 0, none⟩) n c6))
      have HB6' := Lib.hid (HB6.out.set_other w5.heap.size 2 (.slice (some ⟨g6, 0, none⟩) n c6) (fun e => H86.out e.symm))
      have HM7 := Lib.hid (Mor.of_below (HM6.out.below.setCell (p := ⟨w5.heap.size, 2, none⟩) (Nat.le_refl _) (.slice (some ⟨g6, 0, none⟩) n c6)))
      go_wp2_with ((go_at_call 19; (with_reducible refine (HW2.out _).mono ?_); rintro e w1 ⟨rfl, rfl⟩))
      obtain ⟨w7, hw7⟩ : ∃ w7 : World, w7 = w6.setCell ⟨w5.heap.size, 2, none⟩ (.slice (some ⟨g6, 0, none⟩) n c6) := ⟨_, rfl⟩
      rw [← hw7] at HB8' HB6' HM7 ⊢
      have k2 := HB8'.out.cell 2
      have kl := HB8'.out.lt
      simp at k2
      have ka : w7.cell? ⟨g6, I * 2 + 1, none⟩ = some (.int .i64 a) := by rw [HB6'.out.cell]; rw [← HB6.out.cell]; rw [HB6.out.cell]; exact HC6a.out
      have kf := HB6'.out.frozen (I * 2 + 1)
      have kg := HB6'.out.lt
      have HM8 := Lib.hid (Mor.of_below (HM7.out.below.setCell (p := ⟨g6, I * 2 + 1, none⟩) (show w5.heap.size ≤ g6 by omega) (.int .i64 b)))
      have HMw := Lib.hid (Mor.trans' HM5'.out (Mor.refl w5))
      clear hw7 HB8 HB6 HM6 z2c z2f zl y0c yl
      generalize w5.heap.size = g8 at *
      go_cut [8] (fun s wx => s = .pointer (some ⟨g8, 0, none⟩) ∧ Bk wx g8 24 #[.string k0, .int .i64 d0, .slice (some ⟨g6, 0, none⟩) n c6] ∧ Bk wx g6 30 (cur.setIfInBounds (I * 2 + 1) (.int .i64 b)) ∧ Mor w5 wx)
      case first =>
        go_region
        all_goals (go_wp2_with fail; go_meet; exact ⟨rfl, (by have h := HB8'.out.set_other g6 (I * 2 + 1) (.int .i64 b) hb0; first | simpa using h | exact Bk.drew (by simpa using h)), (by have h := HB6'.out.set_ (I * 2 + 1) (.int .i64 b); first | exact h | exact Bk.drew h), (by first | exact HM8.out | exact HM8.out.drew)⟩)
      case rest =>
        obtain ⟨rfl, p8, p6, hm⟩ := hcut
        obtain ⟨w8, rfl⟩ : ∃ w8 : World, w8 = wc := ⟨_, rfl⟩
        have HP8 := Lib.hid p8
        have HSz8 := Lib.hid (HSz.out w8 p6)
        have HY8 := Lib.hid (HY5.out.mor hm)
        have HYs8 := Lib.hid (HYs.out.mor hm)
        have HMf := Lib.hid (Mor.trans' HM5'.out hm)
        have z0 := p8.cell 0
        have z1 := p8.cell 1
        have z2 := p8.cell 2
        have zl := p8.lt
        have zb := p6.cell (I * 2 + 1)
        rw [HZb.out] at zb
        have zg := p6.lt
        have y0 := HY8.out.cell 0
        have y1 := HY8.out.cell 1
        have y2 := HY8.out.cell 2
        have yl := HY8.out.lt
        simp at z0 z1 z2 y0 y1 y2
        clear p8 p6 hm k2 ka kf kg kl HB8' HB6' HM7 HM8 HY5 HYs HSz HZb HCur HC6a hbd
        by_cases hb : b = 0
        · subst hb
          go_wp2_with ((go_at_call 17; (with_reducible refine (HCy.out _ HYs8.out).mono ?_); rintro e w1 ⟨rfl, bs, dr, rfl⟩))
          go_ret
          exact ⟨rfl, HMf.out.more.below⟩
        · have hb' : (b == 0) = false := by simpa using hb
          have H7 := HZ7.out hb
          rw [H7] at HCz
          clear H7
          go_wp2_with (first | (go_at_call 17; (with_reducible refine (HCy.out _ HYs8.out).mono ?_); rintro e w1 ⟨rfl, bs, dr, rfl⟩) | (go_at_call 17; (with_reducible refine (HCz.out _ (Si.mor HSz8.out (Mor.more (Mor.refl _)))).mono ?_); rintro e w1 ⟨rfl, bs, dr, rfl⟩))
          go_ret
          exact ⟨rfl, HMf.out.more.below⟩
  · generalize entc k0 d0 xs = c at *
    have hb : (c != 0) = true := by simpa using hc
    go_wp2_with fail
    go_ret
    exact ⟨rfl, HM4.out.below⟩

end Go.Proofs.Ytjolkmpoogpgnaa.entryMoved
