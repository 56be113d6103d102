/- The walk of talkeep.BookAdds. -/
import Derived.Test.YtpgefclnplmlkaaBookR
namespace Go.Proofs.Ytpgefclnplmlkaa.bookAdds
open Go.ChangeShapes Go.WideShapes Go.ChangeAt Go.RowKit Go.PlainAid
set_option linter.unusedVariables false

def byv (f : Bool) (dy t L : Int) : Int := if f = true ∧ dy ≤ t then L else 0
theorem ln_first {ls : List Ln} (h : (ls.map (·.1)).Nodup) {j : Nat} (hj : j < ls.length) : lnOf (ls.take j) (cd ls j) = 0 := by
  refine lnOf_none fun hm => ?_
  rw [List.mem_map] at hm
  obtain ⟨l, hl, he⟩ := hm
  obtain ⟨i, hi, rfl⟩ := List.mem_iff_getElem.1 hl
  rw [List.length_take] at hi
  rw [List.getElem_take, (cd_at ls j hj).1] at he
  exact (List.pairwise_iff_getElem.1 (List.pairwise_map.1 (show (ls.map (·.1)).Pairwise (· ≠ ·) from h))) i j (by omega) hj (by omega) he

set_option maxRecDepth 100000 in
set_option maxHeartbeats 6400000 in
theorem bookAdds_walk (w : World) (A : Option Addr) (n c : Nat) (X : Option Addr) (m k : Nat) (b : Bok) (hb : Bq w A n c X m k b) (ky : ByteArray) (wk : ky.size ≤ maxLen) (dy : Int) (wd : (Lit.int .i64 dy).wf = true) (B : Option Addr) (p q : Nat) (ls : List Ln) (hl : IsLn w B p q ls) (s : ByteArray) (ws : s.size ≤ maxLen) (v1 : Int) (w1 : (Lit.int .i64 v1).wf = true) :
    Calls Try.prog 5 #[bv A n c X m k b.shut, .agg #[.string ky, .int .i64 dy, .slice B p q], .string s, .int .i64 v1] w fun e w' => e = .returned (.bool true) ∧ Below w.heap.size w w' := by
  have t0 := wi_lo v1 292194 (by omega)
  have t1 := wi_hi v1 292194 (by omega)
  have HDy := Lib.hid (fun w => day_any v1 w)
  generalize wi v1 292194 = t at *
  obtain ⟨x, hx⟩ : ∃ x : En, x = ⟨ky, dy, ls⟩ := ⟨_, rfl⟩
  have HBa := Lib.hid (fun w' (h : Mor w w') => bal_any A n c X m k b s t w' (hb.mor h))
  have HPn := Lib.hid (fun w' (h : Mor w w') (hc : postc b x ≠ 0) => show Calls Try.prog 22 #[bv A n c X m k b.shut, .agg #[.string ky, .int .i64 dy, .slice B p q]] w' (PostNo w' (postc b x)) by
    subst hx; exact post_no A n c X m k b ⟨ky, dy, ls⟩ B p q w' (hb.mor h) (hl.lq.mor h) wk hc)
  have HPy := Lib.hid (fun w' (h : Mor w w') (hc : postc b x = 0) => show Calls Try.prog 22 #[bv A n c X m k b.shut, .agg #[.string ky, .int .i64 dy, .slice B p q]] w' (PostYes w' (postb b x)) by
    subst hx; exact post_yes A n c X m k b ⟨ky, dy, ls⟩ B p q w' (hb.mor h) (hl.lq.mor h) wk hc)
  have HLs := Lib.hid (fun w' (h : Mor w w') => hl.lq.mor h)
  have HLn := Lib.hid hl.length
  have HBv := Lib.hid (fun h : balc b s t ≠ 0 => balv_bad h)
  have HBz := Lib.hid (fun h : balc b s t = 0 => balc_zero h)
  have HN := Lib.hid hb.length
  generalize hsh : b.shut = sh at *
  have HSh := Lib.hid hsh
  have hpm : p ≤ maxLen := Nat.le_trans hl.le hl.max
  unfold maxLen at hpm
  clear hb w1 wd hl hsh
  go_enter Try.func5, Try.ntmps5
  go_wp2_with fail
  refine (begun_any _).mono ?_
  rintro e w2 ⟨rfl, hm⟩
  have hP := ((Bk.new w 25 #[.slice A n c, .slice X m k, .int .i64 sh]).alloc (.cells #[.string ky, .int .i64 dy, .slice B p q] 42)).mor hm
  have hX := (Bk.new (w.alloc (.cells #[.slice A n c, .slice X m k, .int .i64 sh] 25)) 42 #[.string ky, .int .i64 dy, .slice B p q]).mor hm
  rw [← sz1] at hX
  have hM2 := ((Mor.refl w).alloc.alloc).trans' hm
  obtain ⟨bP, hbP⟩ : ∃ g, g = w.heap.size := ⟨_, rfl⟩
  rw [← hbP] at hP hX ⊢
  obtain ⟨bX, hbX⟩ : ∃ g, g = bP + 1 := ⟨_, rfl⟩
  rw [← hbX] at hX ⊢
  have HP := Lib.hid (fun w' (h : Mor w2 w') => hP.mor h)
  have HX := Lib.hid (fun w' (h : Mor w2 w') => hX.mor h)
  have HM2 := Lib.hid hM2
  have c0 := hP.cell 0
  have c1 := hP.cell 1
  have c2 := hP.cell 2
  have cl := hP.lt
  have e0 := hX.cell 0
  have e1 := hX.cell 1
  have e2 := hX.cell 2
  have el := hX.lt
  simp at c0 c1 c2 e0 e1 e2
  clear hP hX hM2 hm hbP hbX
  go_wp2_with ((go_at_call 17; (with_reducible refine (HDy.out _).mono ?_); rintro e w6 ⟨rfl, rfl⟩))
  by_cases hpc : postc b x = 0
  · refine (HPy.out _ HM2.out hpc).mono ?_
    intro e w3 h3
    obtain ⟨A3, n3, c3, X3, m3, k3, rfl, hq3, ho3, hm⟩ := postYes_bq h3
    have HQ3 := Lib.hid hq3
    have HM3 := Lib.hid hm
    have HBy := Lib.hid (fun w' (h : Mor w3 w') => bal_any A3 n3 c3 X3 m3 k3 (postb b x) s t w' (hq3.mor h))
    have HN3 := Lib.hid hq3.length
    have hP := HP.out _ hm
    have hX := HX.out _ hm
    clear c0 c1 c2 cl e0 e1 e2 el h3 hq3 ho3 hm
    have c0 := hP.cell 0
    have c1 := hP.cell 1
    have c2 := hP.cell 2
    have cl := hP.lt
    have e0 := hX.cell 0
    have e1 := hX.cell 1
    have e2 := hX.cell 2
    have el := hX.lt
    simp at c0 c1 c2 e0 e1 e2
    clear hP hX
    generalize hsh2 : (postb b x).shut = sh2 at *
    clear hsh2
    go_wp2_with fail
    refine (HBa.out _ ((HM2.out.trans' HM3.out).alloc)).mono ?_
    rintro e w4 ⟨rfl, hm⟩
    have hY := (Bk.new w3 25 #[.slice A3 n3 c3, .slice X3 m3 k3, .int .i64 sh2]).mor hm
    have hM4 := (HM3.out.alloc).trans' hm
    obtain ⟨bY, hbY⟩ : ∃ g, g = w3.heap.size := ⟨_, rfl⟩
    rw [← hbY] at hY ⊢
    have hP := HP.out _ hM4
    have hX := HX.out _ hM4
    have HM4 := Lib.hid hM4
    have HM34 := Lib.hid ((Mor.refl w3).alloc.trans' hm)
    have HY := Lib.hid (fun w' (h : Mor w4 w') => hY.mor h)
    clear c0 c1 c2 cl e0 e1 e2 el hM4 hm hbY
    have c0 := hP.cell 0
    have c1 := hP.cell 1
    have c2 := hP.cell 2
    have cl := hP.lt
    have e0 := hX.cell 0
    have e1 := hX.cell 1
    have e2 := hX.cell 2
    have el := hX.lt
    have y0 := hY.cell 0
    have y1 := hY.cell 1
    have y2 := hY.cell 2
    have yl := hY.lt
    simp at c0 c1 c2 e0 e1 e2 y0 y1 y2
    clear hP hX hY
    by_cases hbc : balc b s t = 0
    · obtain ⟨hbo, hhas, _, _, hv⟩ := HBz.out hbc
      have hyo := post_ok hpc
      have hyc : balc (postb b x) s t = 0 := balc_of hyo (by rw [(post_ac b x).1]; exact hhas) (by omega) (by omega)
      obtain ⟨_, _, _, _, hyv⟩ := balc_zero hyc
      rw [hyc, hyv, post_of hpc] at HBy
      have hex : enc x = 0 := (post_pre hpc).2.1
      obtain ⟨p12, _, _, hok, hnd, hd0, hd9, _⟩ := en_lines hex
      have hll : x.ls = ls := by rw [hx]
      have hdd : x.day = dy := by rw [hx]
      rw [hll] at p12 hok hnd
      rw [hdd] at hd0 hd9
      have hsb := ofS_bd hbo.enc hbo.len s 0 t
      have hlen := post_len hpc
      rw [HN3.out, HN.out] at hlen
      rw [HLn.out] at p12
      have hlb : ∀ j, j ≤ p → -12000000000000 ≤ lnOf (ls.take j) s ∧ lnOf (ls.take j) s ≤ 12000000000000 := fun j hj => by
        have := lnOf_bd (ls := ls.take j) (fun y hy => hok y (List.mem_of_mem_take hy)) s
        rw [List.length_take] at this; omega
      have HLb := Lib.hid hlb
      have HSt := Lib.hid (fun j (hj : j < p) => ln_take s ls j (by rw [HLn.out]; exact hj))
      have HFi := Lib.hid (fun j (hj : j < p) (e : cd ls j = s) => show lnOf (ls.take j) s = 0 by rw [← e]; exact ln_first hnd (by rw [HLn.out]; exact hj))
      have HLa := Lib.hid (fun j (hj : j < p) => show -1000000000000 ≤ am ls j ∧ am ls j ≤ 1000000000000 by
        have h1 : j < ls.length := by rw [HLn.out]; exact hj
        rw [(cd_at _ j h1).2]
        have := hok _ (List.getElem_mem h1)
        unfold okL at this; omega)
      have HEn := Lib.hid (show enOf s 0 t x = if t < dy then 0 else lnOf (ls.take p) s by
        unfold enOf
        rw [hdd, hll, List.take_of_length_le (by rw [HLn.out]; exact Nat.le_refl _)]
        by_cases h : t < dy
        · rw [if_pos h, if_pos (.inr h)]
        · rw [if_neg h, if_neg (by omega)])
      rw [hbc, hv]
      generalize ofS b.en s 0 t = S at *
      obtain ⟨f, hf⟩ : ∃ f : Bool, f = decide (¬ 0 ≤ findE b.en x.key) := ⟨_, rfl⟩
      have hlen2 : m3 = m + if f then 1 else 0 := by
        rw [hlen, hf]
        by_cases h : 0 ≤ findE b.en x.key
        · rw [if_pos h]; simp [h]
        · rw [if_neg h]; simp [h]
      have hby : S + (if 0 ≤ findE b.en x.key then 0 else enOf s 0 t x) = S + byv f dy t (lnOf (ls.take p) s) := by
        unfold byv
        rw [HEn.out, hf]
        by_cases h : 0 ≤ findE b.en x.key
        · rw [if_pos h]; simp [h]
        · rw [if_neg h]
          by_cases h2 : t < dy
          · rw [if_pos h2]; simp [h]; omega
          · rw [if_neg h2]; simp [h]; omega
      rw [hby] at HBy
      have HL2 := Lib.hid hlen2
      have HX0 := Lib.hid hx
      clear hbo hhas hv hyo hyc hyv hex hnd hll hdd hlen hlen2 hlb hf hby HEn HBz HBv hok hx hpc hbc
      go_wp2_with fail
      refine (HBy.out _ HM34.out).mono ?_
      rintro e w5 ⟨rfl, hm⟩
      have hP := HP.out _ (HM4.out.trans' hm)
      have hX := HX.out _ (HM4.out.trans' hm)
      have hY := HY.out _ hm
      have HM5 := Lib.hid (HM4.out.trans' hm)
      have HP5 := Lib.hid (fun w' (h : Mor w5 w') => hP.mor h)
      have HX5 := Lib.hid (fun w' (h : Mor w5 w') => hX.mor h)
      have HY5 := Lib.hid (fun w' (h : Mor w5 w') => hY.mor h)
      have HLs5 := Lib.hid (fun w' (h : Mor w5 w') => (HLs.out w' ((HM2.out.trans' HM5.out).trans' h)).si)
      clear c0 c1 c2 cl e0 e1 e2 el y0 y1 y2 yl hm HBy HBa HPn HPy HLs
      have e2 := hX.cell 2
      have el := hX.lt
      simp at e2
      clear hP hX hY
      go_wp2_with fail
      go_loopw [15, 57] (fun v i wr => ∃ j : Nat, j ≤ p ∧ i = .int .i64 j ∧ v = .int .i64 (byv f dy t (lnOf (ls.take j) s)) ∧ Hid (Mor w5 wr)) (fun _ i _ => p - (intOf i).toNat)
      case atStart => exact ⟨0, Nat.zero_le _, rfl, by unfold byv; split <;> rfl, Lib.hid (Mor.refl _)⟩
      case round =>
        obtain ⟨j, hj, rfl, rfl, HM⟩ := hrel
        by_cases hlt : j < p
        · have hji : (j : Int) < (p : Int) := by omega
          have hj0 : (0 : Int) ≤ (j : Int) := by omega
          obtain ⟨x2, hA, hx2b, g1, g2⟩ := (HLs5.out _ HM.out).at_ j (by rw [HLn.out]; exact hlt)
          subst hA
          have hP := HP5.out _ HM.out
          have hX := HX5.out _ HM.out
          have hY := HY5.out _ HM.out
          have c1 := hP.cell 1
          have cl := hP.lt
          have e1 := hX.cell 1
          have el' := hX.lt
          have y1 := hY.cell 1
          have yl := hY.lt
          simp at c1 e1 y1
          clear hP hX hY
          obtain ⟨la1, la2⟩ := HLa.out j hlt
          have HS1 := Lib.hid (HSt.out j hlt)
          have HF1 := Lib.hid (HFi.out j hlt)
          generalize lnOf (ls.take j) s = L at *
          generalize cd ls j = cy at *
          generalize am ls j = ay at *
          by_cases hc : cy = s
          · have hL0 := HF1.out hc
            have HW := Lib.hid (show lnOf (ls.take (j + 1)) s = ay by rw [HS1.out, if_pos hc, hL0, Int.zero_add])
            subst hc hL0
            by_cases hd : dy ≤ t
            · cases f
              · have hm3 : m3 = m := by rw [HL2.out]; rfl
                have hmm : ¬ (m : Int) < (m3 : Int) := by omega
                clear hm3
                go_wp2_with fail
                go_roundw
                case rel => exact ⟨j + 1, by omega, by go_num, by simp [byv], Lib.hid HM.out.alloc⟩
                case measure => simp [intOf]; omega
              · have hmm : (m : Int) < (m3 : Int) := by rw [HL2.out]; simp; omega
                go_wp2_with fail
                go_roundw
                case rel => exact ⟨j + 1, by omega, by go_num, by rw [HW.out]; simp [byv, hd], Lib.hid HM.out.alloc⟩
                case measure => simp [intOf]; omega
            · go_wp2_with fail
              go_roundw
              case rel => exact ⟨j + 1, by omega, by go_num, by simp [byv, hd], Lib.hid HM.out.alloc⟩
              case measure => simp [intOf]; omega
          · have hcb : (cy.toList == s.toList) = false := by rw [str_eq]; exact decide_eq_false hc
            have HW := Lib.hid (show lnOf (ls.take (j + 1)) s = L by rw [HS1.out, if_neg hc, Int.add_zero])
            go_wp2_with fail
            go_roundw
            case rel => exact ⟨j + 1, by omega, by go_num, by rw [HW.out], Lib.hid HM.out.alloc⟩
            case measure => simp [intOf]; omega
        · obtain rfl : j = p := by omega
          obtain ⟨lb1, lb2⟩ := HLb.out j (Nat.le_refl _)
          have hgb : -12000000000000 ≤ byv f dy t (lnOf (ls.take j) s) ∧ byv f dy t (lnOf (ls.take j) s) ≤ 12000000000000 := by unfold byv; split <;> omega
          obtain ⟨g1, g2⟩ := hgb
          generalize byv f dy t (lnOf (ls.take j) s) = G at *
          obtain ⟨s1, s2⟩ := hsb
          go_wp2_with fail
          go_ret
          exact ⟨by simp, (HM2.out.trans' (HM5.out.trans' HM.out)).below⟩
    · have hv := HBv.out hbc
      rw [hv]
      generalize balc b s t = r at *
      have hr : (r != 0) = true := by simpa using hbc
      have hr2 : (r == 0) = false := by simpa using hbc
      clear hbc hv
      go_wp2_with fail
      go_ret
      exact ⟨by simp, (HM2.out.trans' HM4.out).below⟩
  · refine (HPn.out _ HM2.out hpc).mono ?_
    rintro e w3 ⟨rfl, hm⟩
    have hr : (postc b x != 0) = true := by simpa using hpc
    generalize postc b x = r at *
    have hP := HP.out _ hm
    have HM3 := Lib.hid (HM2.out.trans' hm)
    clear c0 c1 c2 cl e0 e1 e2 el hm hpc
    have c0 := hP.cell 0
    have c1 := hP.cell 1
    have c2 := hP.cell 2
    have cl := hP.lt
    simp at c0 c1 c2
    clear hP
    go_wp2_with fail
    refine (HBa.out _ (HM3.out.alloc)).mono ?_
    rintro e w4 ⟨rfl, hm⟩
    have HM4 := Lib.hid ((HM3.out.alloc).trans' hm)
    clear hm
    by_cases hbc : balc b s t = 0
    · rw [hbc]
      go_wp2_with fail
      go_ret
      exact ⟨by simp, HM4.out.below⟩
    · have hv := HBv.out hbc
      rw [hv]
      generalize balc b s t = r2 at *
      have hr2 : (r2 == 0) = false := by simpa using hbc
      clear hbc hv
      go_wp2_with fail
      go_ret
      exact ⟨by simp, HM4.out.below⟩

end Go.Proofs.Ytpgefclnplmlkaa.bookAdds
